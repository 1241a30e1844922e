import Derived.Test.YtnjimbgfafkogaaDoorProg
import Derived.Below
import Derived.Deep.Draws
import Derived.Deep.AppendLies
import Derived.Maps.AppendAt
import Derived.OwnWalk
import Derived.Laws.BytesArg
import Derived.Laws.MakeOwn
import Derived.Laws.OwnMore
import Derived.Deep.OwnRows
import Derived.Tactics
import Derived.Lib.ConvBytes
import Derived.Laws.Slices
import Derived.WalkKit
import Derived.KernelRfl
import Derived.RowKit3
import Derived.Deep.LoopGhost
import Derived.Deep.QuietTactic
import Derived.BigQuiet
import Derived.WideLaws
import Derived.Deep.DeepCutAuto
import Derived.Deep.CutBlock
import Derived.Deep.RegionHeld3
import Derived.Laws.Rows
import Derived.Lib.AppendStr
import Derived.ArgAppend
import Derived.Laws.IdiomCopy
import Derived.OrdersHeld
import Derived.Laws.BitsLemmas
import Derived.RowKit
import Derived.Test.YtnjimbgfafkogaaDoorWWords
import Derived.Test.YtnjimbgfafkogaaDoorWLast
import Derived.Test.YtnjimbgfafkogaaDoorWTab
import Derived.Test.YtnjimbgfafkogaaDoorWFour
import Derived.Test.YtnjimbgfafkogaaDoorWQPut
import Derived.Test.YtnjimbgfafkogaaDoorWApart
import Derived.Test.YtnjimbgfafkogaaDoorWArr
import Derived.Test.YtnjimbgfafkogaaDoorWZeros
import Derived.Test.YtnjimbgfafkogaaDoorWFoot
import Derived.Test.YtnjimbgfafkogaaDoorWKept
import Derived.Test.YtnjimbgfafkogaaDoorWShare
import Derived.Test.YtnjimbgfafkogaaDoorWN
import Derived.Test.YtnjimbgfafkogaaDoorWFootNe
import Derived.Test.YtnjimbgfafkogaaDoorWAt
import Derived.Test.YtnjimbgfafkogaaDoorWEqStruct
import Derived.Test.YtnjimbgfafkogaaDoorWRepsOne
import Derived.Test.YtnjimbgfafkogaaDoorWInv
import Derived.Test.YtnjimbgfafkogaaDoorWInvWords
import Derived.Test.YtnjimbgfafkogaaDoorWGuard
import Derived.Test.YtnjimbgfafkogaaDoorWNEv
import Derived.Test.YtnjimbgfafkogaaDoorWMore
import Derived.Test.YtnjimbgfafkogaaDoorMathF
namespace Go.Proofs.YtnjimbgfafkogaaDoor.Hand
open Go.RowKit Go.Proofs.YtnjimbgfafkogaaDoorW.PrintWords Go.Proofs.YtnjimbgfafkogaaDoorW.PrintLast Go.Proofs.YtnjimbgfafkogaaDoorW.PrintMore
set_option linter.unusedVariables false
set_option linter.unusedSimpArgs false

/-! The reference's Ballot: a row that is the table's last one. -/
open Go.Proofs.YtnjimbgfafkogaaDoor.Math
def pomaderef09_Ballot.f (a b t : Int) : Option (Int × Int) := some (if a < 0 ∨ a > 30 ∨ b < 0 ∨ b > 30 ∨ t < 1 ∨ t > 30 then (0, 2) else (((bal t.toNat a.toNat b.toNat : Nat) : Int), 0))
def rowV (b g : Nat) : Value := .slice (some ⟨g, 0, none⟩) (b + 1) (b + 1)
/-- The table: its rows' blocks; all rows but the last are done, the last up to place y. -/
structure BRel (w wr : World) (b t : Nat) (v8 : Value) (gs : List Nat) (rows : Nat → List Int) : Prop where
  own : wr.ownsRow w.heap.size 22 1 v8 gs.length (gs.map (rowV b))
  blk : ∀ i (h : i < gs.length), wr.heap[gs[i]]? = some (.cells (nums .i64 (rows i)).toArray 3 (0, 0))
  far : ∀ g ∈ gs, w.heap.size ≤ g
  nd : ∀ i j (hi : i < gs.length) (hj : j < gs.length), gs[i] = gs[j] → i = j
  bel : Below w.heap.size w wr
theorem BRel.start {w wr : World} {b t : Nat} {rows : Nat → List Int} (h : Below w.heap.size w wr) : BRel w wr b t (.slice none 0 0) [] rows :=
  ⟨own_nil _ _ _ _, fun i h => by simp at h, fun g h => by simp at h, fun i j h => by simp at h, h⟩
theorem BRel.ne {w wr : World} {b t : Nat} {v8 : Value} {gs : List Nat} {rows : Nat → List Int} (h : BRel w wr b t v8 gs rows) (i : Nat) (hi : i < gs.length) : some gs[i] ≠ v8.ownBlock :=
  own_ne h.own (h.blk i hi) (by decide)
/-- A store into a row. -/
theorem BRel.set {w wr : World} {b t : Nat} {v8 : Value} {gs : List Nat} {rows rows' : Nat → List Int} (h : BRel w wr b t v8 gs rows) (x y : Nat) (hx : x < gs.length) (v : Int) (h1 : rows' x = (rows x).set y v) (h2 : ∀ i, i < gs.length → i ≠ x → rows' i = rows i) :
    BRel w (wr.setCell ⟨gs[x], y, none⟩ (.int .i64 v)) b t v8 gs rows' := by
  refine ⟨own_setCell h.own (h.ne x hx) _, fun i hi => ?_, h.far, h.nd, h.bel.setCell (h.far _ (List.getElem_mem hx)) _⟩
  by_cases e : i = x
  · subst e
    rw [blk_set (h.blk i hi), h1]
    simp [nums, List.map_set]
  · have hne : gs[i] ≠ gs[x] := fun he => e (h.nd i x hi hx he)
    rw [blk_far (h.blk i hi) (p := ⟨gs[x], y, none⟩) hne, h2 i hi e]
theorem BRel.drew {w wr : World} {b t : Nat} {v8 : Value} {gs : List Nat} {rows : Nat → List Int} (h : BRel w wr b t v8 gs rows) : BRel w wr.drew b t v8 gs rows :=
  ⟨pw_own_below h.own (below_drew (Below.refl _ _)), h.blk, h.far, h.nd, below_drew h.bel⟩
theorem BRel.row {w wr : World} {b t : Nat} {v8 : Value} {gs : List Nat} {rows : Nat → List Int} (h : BRel w wr b t v8 gs rows) (i j : Nat) (hi : i < gs.length) (hj : j < (rows i).length) :
    wr.cell? ⟨gs[i], j, none⟩ = some (.int .i64 (rd (rows i) (j : Int))) ∧ wr.frozen? ⟨gs[i], j, none⟩ = false := by
  refine ⟨?_, blk_frozen (h.blk i hi) j⟩
  rw [blk_cell (h.blk i hi)]
  simp [nums, rd, List.getD_eq_getElem?_getD, hj]
theorem BRel.tab {w wr : World} {b t : Nat} {v8 : Value} {gs : List Nat} {rows : Nat → List Int} (h : BRel w wr b t v8 gs rows) (hn : 0 < gs.length) : ∃ g c, v8 = .slice (some ⟨g, 0, none⟩) gs.length c ∧ ∀ i (hi : i < gs.length), wr.cell? ⟨g, i, none⟩ = some (rowV b gs[i]) := by
  obtain ⟨hl, ⟨rfl, h0⟩ | ⟨g, c, cur, rfl, hb, hcur, hle, hm, hsz, htk⟩⟩ := h.own
  · omega
  · refine ⟨g, c, rfl, fun i hi => ?_⟩
    have h1 : cur[i]? = (cur.toList.take (gs.length * 1))[i]? := by rw [List.getElem?_take_of_lt (by omega)]; simp
    rw [htk] at h1
    simp only [World.cell?, hcur]
    simp [h1, hi]
/-- A new row. -/
theorem BRel.push {w wr w3 : World} {b t : Nat} {v8 v' : Value} {gs : List Nat} {rows : Nat → List Int} (h : BRel w wr b t v8 gs rows)
    (hown : w3.ownsRow w.heap.size 22 1 v' (gs.length + 1) (gs.map (rowV b) ++ [rowV b wr.heap.size])) (o : Obj)
    (hg : ((wr.alloc (.cells (madeCells #[.int .i64 0] (b + 1)) 3)).alloc o).grownBy w3 v8.ownBlock) (rows' : Nat → List Int) (h1 : ∀ i, i < gs.length → rows' i = rows i) (h2 : rows' gs.length = List.replicate (b + 1) 0) :
    BRel w w3 b t v' (gs ++ [wr.heap.size]) rows' := by
  have hb2 := below_alloc (below_alloc h.bel (.cells (madeCells #[.int .i64 0] (b + 1)) 3)) o
  have hmk : (madeCells #[Value.int .i64 0] (b + 1)).toList = nums .i64 (List.replicate (b + 1) 0) := by
    apply List.ext_getElem
    · simp [nums, madeCells]
    · intro i h1 h2
      simp [nums, madeCells, Nat.mod_one]
  refine ⟨by rw [List.length_append, List.map_append]; exact hown, fun i hi => ?_, fun g hm => ?_, ?_, pw_below_grown hb2 _ hb2.size hg (fun k hk => own_base h.own k hk)⟩
  · by_cases e : i < gs.length
    · rw [List.getElem_append_left e, h1 i e]
      have hlt := blk_lt (h.blk i e)
      rw [hg.block _ (by simp; omega) (h.ne i e)]
      rw [Below.heap_alloc _ _ _ (by simp; omega), Below.heap_alloc _ _ _ hlt]
      exact h.blk i e
    · have ei : i = gs.length := by simp at hi; omega
      subst ei
      rw [List.getElem_append_right (by omega)]
      simp only [Nat.sub_self, List.getElem_cons_zero, h2]
      rw [hg.block _ (by simp; omega) (fun he => by have := own_lt h.own _ he.symm; omega), Below.heap_alloc _ _ _ (by simp)]
      have := heap_alloc_new wr (.cells (madeCells #[.int .i64 0] (b + 1)) 3)
      rw [this]
      congr 2
      rw [← hmk]
  · rcases List.mem_append.1 hm with h3 | h3
    · exact h.far g h3
    · have : g = wr.heap.size := by simpa using h3
      subst this; exact h.bel.size
  · have old : ∀ i (hi : i < gs.length), gs[i] < wr.heap.size := fun i hi => blk_lt (h.blk i hi)
    intro i j hi hj hij
    by_cases e1 : i < gs.length
    · rw [List.getElem_append_left e1] at hij
      by_cases e2 : j < gs.length
      · rw [List.getElem_append_left e2] at hij
        exact h.nd i j e1 e2 hij
      · rw [List.getElem_append_right (by omega)] at hij
        have := old i e1
        simp at hij; omega
    · rw [List.getElem_append_right (by omega)] at hij
      by_cases e2 : j < gs.length
      · rw [List.getElem_append_left e2] at hij
        have := old j e2
        simp at hij; omega
      · simp at hi hj; omega

theorem balPart_zero (b t x : Nat) : balPart b t x 0 = List.replicate (b + 1) 0 := by
  rw [replicate_tabF]
  exact tabF_congr fun j hj => by rw [if_neg (by omega)]
theorem balPart_same (b t x y : Nat) (h : bal t x y = 0) : balPart b t x (y + 1) = balPart b t x y := tabF_congr fun j hj => by
  by_cases e : j = y
  · subst e; rw [if_pos (by omega), if_neg (by omega), h]; rfl
  · by_cases h : j < y
    · rw [if_pos h, if_pos (by omega)]
    · rw [if_neg h, if_neg (by omega)]
theorem BRel.congr {w wr : World} {b t : Nat} {v8 : Value} {gs : List Nat} {rows rows' : Nat → List Int} (h : BRel w wr b t v8 gs rows) (he : ∀ i, i < gs.length → rows' i = rows i) : BRel w wr b t v8 gs rows' :=
  ⟨h.own, fun i hi => by rw [he i hi]; exact h.blk i hi, h.far, h.nd, h.bel⟩
theorem wI {i : Nat} (h : i ≤ 1000000) : wrap64 ((i : Int) + 1) = (i : Int) + 1 := by unfold wrap64; omega
theorem wmI {t y : Nat} (h : t * y ≤ 1000000) : wrap64 ((t : Int) * (y : Int)) = (t : Int) * (y : Int) := by
  rw [← Int.natCast_mul]; unfold wrap64; omega
theorem wyI {y z : Nat} (h : y = z + 1) (hb : y ≤ 1000000) : IntKind.i64.wrap ((y : Int) - 1) = (z : Int) := by rw [i64_w]; subst h; unfold wrap64; omega
theorem wbI {t x y : Nat} (h : x + y ≤ 60) : wrap64 ((bal t x y : Nat) : Int) = ((bal t x y : Nat) : Int) := by
  have := bal_small t x y h
  unfold wrap64; omega
theorem wdI {x : Nat} {X : Int} (hX : ((x + 1 : Nat) : Int) = X) (h : x ≤ 1000000) : wrap64 (X - 1) = (x : Int) := by subst hX; unfold wrap64; omega
def bRows (b t x y : Nat) : Nat → List Int := fun i => if i < x then balRow b t i else balPart b t i y
theorem bRows_len (b t x y i : Nat) : (bRows b t x y i).length = b + 1 := by
  unfold bRows
  split
  · exact balRow_length b t i
  · exact balPart_length b t i y
set_option maxHeartbeats 4000000 in
set_option maxRecDepth 100000 in
theorem refballot_main (a b t : Nat) (w : World) (ha : a ≤ 30) (hb : b ≤ 30) (ht1 : 1 ≤ t) (ht : t ≤ 30) :
    Calls Tryd.prog 25 #[.int .i64 a, .int .i64 b, .int .i64 t] w fun e w' => e = .returned (.tuple #[.int .i64 ((bal t a b : Nat) : Int), .int .i64 0]) ∧ Below w.heap.size w w' := by
  have info22 : (Tryd.prog.info? 22).map (fun i => (i.zero, i.size, i.bytes)) = some (some (.slice none 0 0), 1, 24) := by kernel_rfl
  obtain ⟨i0, hi, hz0, hz1, hz2⟩ := info_parts info22
  have info3 : (Tryd.prog.info? 3).map (fun i => (i.zero, i.size, i.bytes)) = some (some (.int .i64 0), 1, 8) := by kernel_rfl
  have hmk : ∀ W : World, (Instr.makeSlice 22 (.int .i64 ((b : Int) + 1)) (.int .i64 ((b : Int) + 1))).run Tryd.prog W = .ok (.slice (some ⟨W.heap.size, 0, none⟩) (b + 1) (b + 1)) (W.alloc (.cells (madeCells #[.int .i64 0] (b + 1)) 3)) := by
    have := print_make (P := Tryd.prog) 22 3 .i64 8 Tryd.underlying22 info3 (by decide) (b + 1) (by omega)
    rw [Int.natCast_succ] at this
    exact this
  have d1 : decide ((a : Int) < 0) = false := decide_eq_false (by omega)
  have d2 : decide ((30 : Int) < (a : Int)) = false := decide_eq_false (by omega)
  have d3 : decide ((b : Int) < 0) = false := decide_eq_false (by omega)
  have d4 : decide ((30 : Int) < (b : Int)) = false := decide_eq_false (by omega)
  have d5 : decide ((t : Int) < 1) = false := decide_eq_false (by omega)
  have d6 : decide ((30 : Int) < (t : Int)) = false := decide_eq_false (by omega)
  have HWb := Aside0.mk (wI (i := b) (by omega))
  go_enter Tryd.func25, Tryd.ntmps25
  go_wp2
  go_loopg [8, 9] (a + 1) (fun q v8 v9 wr => ∃ (x : Nat) (gs : List Nat), v9 = .int .i64 x ∧ x + q = a + 1 ∧ gs.length = x ∧ Aside0 (BRel w wr b t v8 gs (balRow b t)))
  case atStart => exact ⟨0, [], rfl, by omega, rfl, ⟨BRel.start (Below.refl _ _)⟩⟩
  case round =>
    obtain ⟨x, gs, rfl, hxq, hgs, HB⟩ := hrel
    by_cases hxa : x ≤ a
    · obtain ⟨q, rfl⟩ : ∃ q, gk = q + 1 := ⟨gk - 1, by omega⟩
      have hle : decide ((x : Int) ≤ (a : Int)) = true := decide_eq_true (by omega)
      have HWx := Aside0.mk (wI (i := x) (by omega))
      clear d1 d2 d3 d4 d5 d6
      have hwb := HWb.out
      go_wp2_with (at_builtin; refine wpList_append_own _ rfl _ _ 59 rfl w.heap.size 22 i0 (.slice none 0 0) 1 24 Tryd.underlying59 hi hz0 hz1 hz2 rfl (by decide) _ _ _ rfl (pw_own_below (pw_own_below HB.out.own (below_alloc (Below.refl _ _) _)) (below_alloc (Below.refl _ _) _)) ⟨wr.heap.size + 1, 0, none⟩ 1 1 [rowV b wr.heap.size] rfl rfl ?c1 ?c2 ?c3 ?c4 ?c5 ?_)
      case c1 =>
        have e : wr.heap.size + 1 = (wr.alloc (.cells (madeCells #[.int .i64 0] (b + 1)) 3)).heap.size := by simp
        rw [e]; exact cell_one_new _ _ _
      case c2 => intro u hu; simp at hu; subst hu; rfl
      case c3 => clear hwb; unfold maxLen; omega
      case c4 => clear hwb; omega
      case c5 => clear hwb; have := HB.out.bel.size; simp; omega
      intro v8' w3 hown3 hgrow3 _
      clear hwb
      have HB3 := Aside0.mk (HB.out.push (b := b) (by rw [hgs]; exact hown3) _ hgrow3 (bRows b t x 0) (fun i hi => by unfold bRows; rw [if_pos (by omega)]) (by unfold bRows; rw [if_neg (by omega), hgs]; exact balPart_zero b t x))
      clear hown3 hgrow3 hmk
      obtain ⟨G, hG⟩ : ∃ G, wr.heap.size = G := ⟨_, rfl⟩
      rw [hG] at HB3 ⊢
      obtain ⟨gs', hgs'⟩ : ∃ l, gs ++ [G] = l := ⟨_, rfl⟩
      have hgl : gs'.length = x + 1 := by rw [← hgs']; simp [hgs]
      have hgx : ∀ h : x < gs'.length, gs'[x] = G := fun h => by
        subst hgs'
        rw [List.getElem_append_right (by omega)]; simp [hgs]
      rw [hgs'] at HB3
      clear HB hG hgs hgs'
      go_wp2
      go_loopg [11] (b + 1) (fun q v11 wi => ∃ y : Nat, v11 = .int .i64 y ∧ y + q = b + 1 ∧ Aside0 (BRel w wi b t v8' gs' (bRows b t x y)))
      case atStart => exact ⟨0, rfl, by omega, HB3⟩
      case round =>
        clear HB3
        obtain ⟨y, rfl, hyq, HB⟩ := hrel
        by_cases hyb : y ≤ b
        · obtain ⟨p, rfl⟩ : ∃ p, gk = p + 1 := ⟨gk - 1, by omega⟩
          have dy : decide ((y : Int) ≤ (b : Int)) = true := decide_eq_true (by omega)
          have HWy := Aside0.mk (wI (i := y) (by omega))
          have hrow := HB.out.row x y (by omega) (by rw [bRows_len]; omega)
          rw [hgx (by omega)] at hrow
          by_cases h00 : x = 0 ∧ y = 0
          · obtain ⟨rfl, rfl⟩ := h00
            have HB2 := Aside0.mk (HB.out.set (rows' := bRows b t 0 1) 0 0 (by omega) 1 (by unfold bRows; rw [if_neg (by omega), if_neg (by omega)]; exact (balPart_set b t 0 0 1 (by rw [bal]; rfl)).symm) (fun i hi hne => by omega))
            rw [hgx (by omega)] at HB2
            obtain ⟨hr1, hr2⟩ := hrow
            clear HB
            have hwy := HWy.out
            go_wp2
            go_roundg p
            case measure => clear hwy; omega
            case rel => clear hwy; exact ⟨1, rfl, by omega, HB2⟩
          · have h900 : t * y ≤ 900 := Nat.le_trans (Nat.mul_le_mul ht (show y ≤ 30 by omega)) (by omega)
            have HWt := Aside0.mk (wmI (t := t) (y := y) (by omega))
            have hcmp : (x : Int) ≤ (t : Int) * (y : Int) ↔ x ≤ t * y := by rw [← Int.natCast_mul]; omega
            by_cases hle2 : x ≤ t * y
            · have hz := bal_low t x y hle2 (by omega)
              have dl : decide ((x : Int) ≤ wrap64 ((t : Int) * (y : Int))) = true := by rw [HWt.out]; exact decide_eq_true (hcmp.2 hle2)
              have HB2 := Aside0.mk (HB.out.congr (rows' := bRows b t x (y + 1)) (fun i hi => by unfold bRows; by_cases c : i < x; rw [if_pos c, if_pos c]; rw [if_neg c, if_neg c, show i = x by omega, balPart_same b t x y hz]))
              clear HB hrow hcmp hle2 hz
              by_cases hx0 : x = 0
              · have e1 : ((x : Int) == 0) = true := beq_iff_eq.2 (by omega)
                have e2 : ((y : Int) == 0) = false := beq_eq_false_iff_ne.2 (by omega)
                clear hx0
                clear h00 h900
                go_wp2
                go_roundg p
                case measure => omega
                case rel => exact ⟨y + 1, by rw [Int.natCast_succ], by omega, HB2⟩
              · have e1 : ((x : Int) == 0) = false := beq_eq_false_iff_ne.2 (by omega)
                clear hx0
                clear h00 h900
                go_wp2
                go_roundg p
                case measure => omega
                case rel => exact ⟨y + 1, by rw [Int.natCast_succ], by omega, HB2⟩
            · obtain ⟨x, rfl⟩ : ∃ m, x = m + 1 := ⟨x - 1, by cases x with | zero => exact absurd (Nat.zero_le _) hle2 | succ m => rfl⟩
              obtain ⟨X, hX⟩ : ∃ X : Int, ((x + 1 : Nat) : Int) = X := ⟨_, rfl⟩
              have dl : decide (X ≤ wrap64 ((t : Int) * (y : Int))) = false := by rw [HWt.out, ← hX]; exact decide_eq_false (fun h => hle2 (hcmp.1 h))
              have e1 : (X == 0) = false := beq_eq_false_iff_ne.2 (by omega)
              have e2 : decide (0 < X) = true := decide_eq_true (by omega)
              have HWX := Aside0.mk (wdI hX (by omega))
              have HGt : Aside0 (t * y < x + 1) := ⟨by omega⟩
              have HWxX : Aside0 (wrap64 (X + 1) = X + 1) := ⟨by rw [← hX]; exact HWx.out⟩
              have hprev := HB.out.row x y (by omega) (by rw [bRows_len]; omega)
              obtain ⟨gt, ct, hv8, htab⟩ := HB.out.tab (by omega)
              have hcur : rd (bRows b t (x + 1) y (x + 1)) (y : Int) = 0 := by
                unfold bRows; rw [if_neg (by omega), rd_balPart b t _ _ _ hyb, if_neg (by omega)]
              have hpr : rd (bRows b t (x + 1) y x) (y : Int) = ((bal t x y : Nat) : Int) := by
                unfold bRows; rw [if_pos (by omega), rd_balRow b t _ _ hyb]
              rw [hcur] at hrow
              rw [hpr] at hprev
              have htx := htab x (by omega)
              obtain ⟨gp, hgp⟩ : ∃ gp, gs'[x]'(by omega) = gp := ⟨_, rfl⟩
              rw [hgp] at htx hprev
              unfold rowV at htx
              subst hv8
              obtain ⟨r1, r2⟩ := hrow
              obtain ⟨r3, _⟩ := hprev
              rw [hX] at hle
              rw [hX]
              clear hcmp hle2 h00 h900 hcur hpr htab
              have hwXi : IntKind.i64.wrap (X - 1) = (x : Int) := (i64_w _).trans HWX.out
              have b1 : (y : Int) < (b : Int) + 1 := by omega
              have b2 : (x : Int) < (x : Int) + 1 := by omega
              go_wp2
              go_region
              have HV1 := Aside0.mk (wbI (t := t) (x := x) (y := y) (by omega))
              have HB1 := Aside0.mk ((HB.out.set (rows' := fun i => if i < x + 1 then balRow b t i else (balPart b t (x + 1) y).set y ((bal t x y : Nat) : Int)) (x + 1) y (by omega) ((bal t x y : Nat) : Int) (by unfold bRows; rw [if_neg (by omega), if_neg (by omega)]) (fun i hi hne => by unfold bRows; rw [if_pos (by omega), if_pos (by omega)])).drew)
              rw [hgx (by omega)] at HB1
              have HRl : ∀ i, i < gs'.length → i ≠ x + 1 → i < x + 1 := fun i h1 h2 => by omega
              by_cases hy0 : y = 0
              · have d0 : decide ((0 : Int) < (y : Int)) = false := decide_eq_false (by omega)
                have d0n : decide (0 < y) = false := decide_eq_false (by omega)
                have HB2 := Aside0.mk (HB1.out.congr (rows' := bRows b t (x + 1) (y + 1)) (fun i hi => by
                  unfold bRows
                  by_cases c : i < x + 1
                  · rw [if_pos c, if_pos c]
                  · have : i = x + 1 := by omega
                    subst this
                    rw [if_neg c, if_neg c]
                    exact (balPart_set b t (x + 1) y _ (by subst hy0; rw [bal])).symm))
                clear HB HB1 hy0
                go_wp2
                rw [HV1.out]
                subst hX
                go_roundg p
                case measure => omega
                case rel => exact ⟨y + 1, by rw [Int.natCast_succ], by omega, HB2⟩
              · obtain ⟨z, hz⟩ : ∃ z, y = z + 1 := ⟨y - 1, by omega⟩
                have d0 : decide ((0 : Int) < (y : Int)) = true := decide_eq_true (by omega)
                have d0n : decide (0 < y) = true := decide_eq_true (by omega)
                have hwz := wyI hz (by omega)
                have HZ := Aside0.mk hz
                clear hz
                go_wp2
                rw [HV1.out]
                obtain ⟨W1, hW1⟩ : ∃ W1, (wr.setCell ⟨G, y, none⟩ (.int .i64 ((bal t x y : Nat) : Int))).drew = W1 := ⟨_, rfl⟩
                rw [hW1] at HB1 ⊢
                clear hW1 r1 r2 r3 htx HB hwXi e1 e2 dl
                have q1 := HB1.out.row (x + 1) y (by omega) (by show y < (if x + 1 < x + 1 then _ else _ : List Int).length; rw [if_neg (by omega), List.length_set, balPart_length]; omega)
                have q2 := HB1.out.row (x + 1) z (by omega) (by have := HZ.out; show z < (if x + 1 < x + 1 then _ else _ : List Int).length; rw [if_neg (by omega), List.length_set, balPart_length]; omega)
                have v1 : rd ((fun i => if i < x + 1 then balRow b t i else (balPart b t (x + 1) y).set y ((bal t x y : Nat) : Int)) (x + 1)) (y : Int) = ((bal t x y : Nat) : Int) := by
                  show rd (if x + 1 < x + 1 then balRow b t (x + 1) else (balPart b t (x + 1) y).set y ((bal t x y : Nat) : Int)) (y : Int) = _
                  rw [if_neg (by omega)]; unfold balPart; rw [tabF_set, rd_tabF _ _ _ (by omega), if_pos rfl]
                have v2 : rd ((fun i => if i < x + 1 then balRow b t i else (balPart b t (x + 1) y).set y ((bal t x y : Nat) : Int)) (x + 1)) (z : Int) = ((bal t (x + 1) z : Nat) : Int) := by
                  have := HZ.out
                  show rd (if x + 1 < x + 1 then balRow b t (x + 1) else (balPart b t (x + 1) y).set y ((bal t x y : Nat) : Int)) (z : Int) = _
                  rw [if_neg (by omega)]; unfold balPart; rw [tabF_set, rd_tabF _ _ _ (by omega), if_neg (by omega), if_pos (by omega)]
                rw [v1, hgx (by omega)] at q1
                rw [v2, hgx (by omega)] at q2
                obtain ⟨q11, q12⟩ := q1
                obtain ⟨q21, _⟩ := q2
                have HV2 : Aside0 (wrap64 (((bal t x y : Nat) : Int) + ((bal t (x + 1) z : Nat) : Int)) = ((bal t (x + 1) y : Nat) : Int)) := ⟨by
                  have h1 := HZ.out
                  have h2 := bal_small t (x + 1) y (by omega)
                  subst h1
                  have hgt := HGt.out
                  rw [bal, if_pos hgt] at h2 ⊢
                  rw [← Int.natCast_add]
                  unfold wrap64; omega⟩
                have HB2 := Aside0.mk ((HB1.out.set (rows' := bRows b t (x + 1) (y + 1)) (x + 1) y (by omega) ((bal t (x + 1) y : Nat) : Int) (by
                  show bRows b t (x + 1) (y + 1) (x + 1) = (if x + 1 < x + 1 then balRow b t (x + 1) else (balPart b t (x + 1) y).set y ((bal t x y : Nat) : Int)).set y _
                  unfold bRows
                  rw [if_neg (by omega), if_neg (by omega), List.set_set]
                  exact (balPart_set b t (x + 1) y _ rfl).symm) (fun i hi hne => by
                  show bRows b t (x + 1) (y + 1) i = if i < x + 1 then balRow b t i else (balPart b t (x + 1) y).set y ((bal t x y : Nat) : Int)
                  unfold bRows; rw [if_pos (by omega), if_pos (by omega)])).drew)
                rw [hgx (by omega)] at HB2
                clear v1 v2 HB1
                have b3 : (z : Int) < (b : Int) + 1 := by have := HZ.out; omega
                obtain ⟨n1, hn1⟩ : ∃ n1 : Int, ((bal t x y : Nat) : Int) = n1 := ⟨_, rfl⟩
                obtain ⟨n2, hn2⟩ : ∃ n2 : Int, ((bal t (x + 1) z : Nat) : Int) = n2 := ⟨_, rfl⟩
                rw [hn1] at q11 HV2
                rw [hn2] at q21 HV2
                clear hn1 hn2 HV1
                go_region
                go_wp2
                rw [HV2.out]
                subst hX
                go_roundg p
                case measure => omega
                case rel => exact ⟨y + 1, by rw [Int.natCast_succ], by omega, HB2⟩
        · obtain rfl : gk = 0 := by omega
          obtain rfl : y = b + 1 := by omega
          have dy : decide (((b + 1 : Nat) : Int) ≤ (b : Int)) = false := decide_eq_false (by omega)
          have HB2 := Aside0.mk (HB.out.congr (rows' := balRow b t) (fun i hi => by
            unfold bRows
            by_cases c : i < x
            · rw [if_pos c]
            · rw [if_neg c]; exact (balPart_full b t i).symm))
          rw [Int.natCast_succ] at dy
          clear HB
          go_wp2
          go_roundg q
          case measure => omega
          case rel => exact ⟨x + 1, gs', by rw [Int.natCast_succ], by omega, hgl, HB2⟩
    · obtain rfl : gk = 0 := by omega
      obtain rfl : x = a + 1 := by omega
      have hle : decide (((a + 1 : Nat) : Int) ≤ (a : Int)) = false := decide_eq_false (by omega)
      rw [Int.natCast_succ] at hle
      obtain ⟨gt, ct, hv8, htab⟩ := HB.out.tab (by omega)
      have htx := htab a (by omega)
      have hr := (HB.out.row a b (by omega) (by rw [balRow_length]; omega)).1
      rw [rd_balRow b t a b (Nat.le_refl _)] at hr
      obtain ⟨g, hg⟩ : ∃ g, gs[a]'(by omega) = g := ⟨_, rfl⟩
      rw [hg] at htx hr
      unfold rowV at htx
      subst hv8
      have HBel := Aside0.mk HB.out.bel
      have b1 : (b : Int) < (b : Int) + 1 := by omega
      have b2 : (a : Int) < (a : Int) + 1 := by omega
      clear hg htab HB d1 d2 d3 d4 d5 d6
      go_wp2
      go_ret2
      exact ⟨rfl, HBel.out⟩

set_option maxHeartbeats 4000000 in
set_option maxRecDepth 100000 in
theorem pomaderef09_Ballot.calls (a0 a1 a2 : Int) (r1 r2 : Int) (w : World) (h : pomaderef09_Ballot.f a0 a1 a2 = some (r1, r2)) :
    Calls Tryd.prog 25 #[.int .i64 a0, .int .i64 a1, .int .i64 a2] w fun e w' => e = .returned (.tuple #[.int .i64 r1, .int .i64 r2]) ∧ Below w.heap.size w w' := by
  unfold pomaderef09_Ballot.f at h
  by_cases hc : a0 < 0 ∨ a0 > 30 ∨ a1 < 0 ∨ a1 > 30 ∨ a2 < 1 ∨ a2 > 30
  · rw [if_pos hc] at h
    simp only [Option.some.injEq, Prod.mk.injEq] at h
    obtain ⟨rfl, rfl⟩ := h
    have fin : ∀ p1 p2 p3 p4 p5 p6 : Bool, decide (a0 < 0) = p1 → decide (30 < a0) = p2 → decide (a1 < 0) = p3 → decide (30 < a1) = p4 → decide (a2 < 1) = p5 → decide (30 < a2) = p6 → (p1 || p2 || p3 || p4 || p5 || p6) = true →
        Calls Tryd.prog 25 #[.int .i64 a0, .int .i64 a1, .int .i64 a2] w fun e w' => e = .returned (.tuple #[.int .i64 0, .int .i64 2]) ∧ Below w.heap.size w w' := by
      intro p1 p2 p3 p4 p5 p6 h1 h2 h3 h4 h5 h6 hor
      clear hc
      cases p1 <;> cases p2 <;> cases p3 <;> cases p4 <;> cases p5 <;> cases p6 <;> first | (exact absurd hor (by decide)) | (go_enter Tryd.func25, Tryd.ntmps25; go_wp2; go_ret2; exact ⟨rfl, Below.refl _ _⟩)
    refine fin _ _ _ _ _ _ rfl rfl rfl rfl rfl rfl ?_
    simp only [Bool.or_eq_true, decide_eq_true_eq]
    omega
  · rw [if_neg hc] at h
    simp only [Option.some.injEq, Prod.mk.injEq] at h
    obtain ⟨rfl, rfl⟩ := h
    have e0 : (((a0.toNat : Nat) : Int)) = a0 := by omega
    have e1 : (((a1.toNat : Nat) : Int)) = a1 := by omega
    have e2 : (((a2.toNat : Nat) : Int)) = a2 := by omega
    have := refballot_main a0.toNat a1.toNat a2.toNat w (by omega) (by omega) (by omega) (by omega)
    rw [e0, e1, e2] at this
    exact this

end Go.Proofs.YtnjimbgfafkogaaDoor.Hand
