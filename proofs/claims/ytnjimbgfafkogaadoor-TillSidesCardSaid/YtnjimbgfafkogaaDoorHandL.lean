import Derived.Test.YtnjimbgfafkogaaDoorProg
import Derived.Below
import Derived.Deep.Draws
import Derived.Deep.AppendLies
import Derived.Maps.AppendAt
import Derived.OwnWalk
import Derived.Laws.BytesArg
import Derived.Laws.MakeOwn
import Derived.Laws.OwnMore
import Derived.Deep.OwnRows
import Derived.Tactics
import Derived.Lib.ConvBytes
import Derived.Laws.Slices
import Derived.WalkKit
import Derived.KernelRfl
import Derived.RowKit3
import Derived.Deep.LoopGhost
import Derived.Deep.QuietTactic
import Derived.BigQuiet
import Derived.WideLaws
import Derived.Deep.DeepCutAuto
import Derived.Deep.CutBlock
import Derived.Deep.RegionHeld3
import Derived.Laws.Rows
import Derived.Lib.AppendStr
import Derived.ArgAppend
import Derived.Laws.IdiomCopy
import Derived.OrdersHeld
import Derived.Laws.BitsLemmas
import Derived.RowKit
import Derived.Test.YtnjimbgfafkogaaDoorWWords
import Derived.Test.YtnjimbgfafkogaaDoorWLast
import Derived.Test.YtnjimbgfafkogaaDoorWTab
import Derived.Test.YtnjimbgfafkogaaDoorWFour
import Derived.Test.YtnjimbgfafkogaaDoorWQPut
import Derived.Test.YtnjimbgfafkogaaDoorWApart
import Derived.Test.YtnjimbgfafkogaaDoorWArr
import Derived.Test.YtnjimbgfafkogaaDoorWZeros
import Derived.Test.YtnjimbgfafkogaaDoorWFoot
import Derived.Test.YtnjimbgfafkogaaDoorWKept
import Derived.Test.YtnjimbgfafkogaaDoorWShare
import Derived.Test.YtnjimbgfafkogaaDoorWN
import Derived.Test.YtnjimbgfafkogaaDoorWFootNe
import Derived.Test.YtnjimbgfafkogaaDoorWAt
import Derived.Test.YtnjimbgfafkogaaDoorWEqStruct
import Derived.Test.YtnjimbgfafkogaaDoorWRepsOne
import Derived.Test.YtnjimbgfafkogaaDoorWInv
import Derived.Test.YtnjimbgfafkogaaDoorWInvWords
import Derived.Test.YtnjimbgfafkogaaDoorWGuard
import Derived.Test.YtnjimbgfafkogaaDoorWNEv
import Derived.Test.YtnjimbgfafkogaaDoorWMore
import Derived.Test.YtnjimbgfafkogaaDoorHandD
import Derived.Test.YtnjimbgfafkogaaDoorEvD
import Derived.Test.YtnjimbgfafkogaaDoorMathG
import Derived.Test.YtnjimbgfafkogaaDoorMathF
namespace Go.Proofs.YtnjimbgfafkogaaDoor.Hand
open Go.RowKit Go.Proofs.YtnjimbgfafkogaaDoorW.PrintWords Go.Proofs.YtnjimbgfafkogaaDoorW.PrintLast Go.Proofs.YtnjimbgfafkogaaDoorW.PrintMore
set_option linter.unusedVariables false
set_option linter.unusedSimpArgs false

/-! The reference's Ballot: a row that is the table's last one. -/
open Go.Proofs.YtnjimbgfafkogaaDoor.Math
def pomaderef09_Ballot.f (a b t : Int) : Option (Int × Int) := some (if a < 0 ∨ a > 30 ∨ b < 0 ∨ b > 30 ∨ t < 1 ∨ t > 30 then (0, 2) else (((bal t.toNat a.toNat b.toNat : Nat) : Int), 0))
def rowV (b g : Nat) : Value := .slice (some ⟨g, 0, none⟩) (b + 1) (b + 1)
/-- The table: its rows' blocks; all rows but the last are done, the last up to place y. -/
structure BRel (w wr : World) (b t : Nat) (v8 : Value) (gs : List Nat) (rows : Nat → List Int) : Prop where
  own : wr.ownsRow w.heap.size 22 1 v8 gs.length (gs.map (rowV b))
  blk : ∀ i (h : i < gs.length), wr.heap[gs[i]]? = some (.cells (nums .i64 (rows i)).toArray 3 (0, 0))
  far : ∀ g ∈ gs, w.heap.size ≤ g
  nd : ∀ i j (hi : i < gs.length) (hj : j < gs.length), gs[i] = gs[j] → i = j
  bel : Below w.heap.size w wr
theorem BRel.start {w wr : World} {b t : Nat} {rows : Nat → List Int} (h : Below w.heap.size w wr) : BRel w wr b t (.slice none 0 0) [] rows :=
  ⟨own_nil _ _ _ _, fun i h => by simp at h, fun g h => by simp at h, fun i j h => by simp at h, h⟩
theorem BRel.ne {w wr : World} {b t : Nat} {v8 : Value} {gs : List Nat} {rows : Nat → List Int} (h : BRel w wr b t v8 gs rows) (i : Nat) (hi : i < gs.length) : some gs[i] ≠ v8.ownBlock :=
  own_ne h.own (h.blk i hi) (by decide)
/-- A store into a row. -/
theorem BRel.set {w wr : World} {b t : Nat} {v8 : Value} {gs : List Nat} {rows rows' : Nat → List Int} (h : BRel w wr b t v8 gs rows) (x y : Nat) (hx : x < gs.length) (v : Int) (h1 : rows' x = (rows x).set y v) (h2 : ∀ i, i < gs.length → i ≠ x → rows' i = rows i) :
    BRel w (wr.setCell ⟨gs[x], y, none⟩ (.int .i64 v)) b t v8 gs rows' := by
  refine ⟨own_setCell h.own (h.ne x hx) _, fun i hi => ?_, h.far, h.nd, h.bel.setCell (h.far _ (List.getElem_mem hx)) _⟩
  by_cases e : i = x
  · subst e
    rw [blk_set (h.blk i hi), h1]
    simp [nums, List.map_set]
  · have hne : gs[i] ≠ gs[x] := fun he => e (h.nd i x hi hx he)
    rw [blk_far (h.blk i hi) (p := ⟨gs[x], y, none⟩) hne, h2 i hi e]
theorem BRel.drew {w wr : World} {b t : Nat} {v8 : Value} {gs : List Nat} {rows : Nat → List Int} (h : BRel w wr b t v8 gs rows) : BRel w wr.drew b t v8 gs rows :=
  ⟨pw_own_below h.own (below_drew (Below.refl _ _)), h.blk, h.far, h.nd, below_drew h.bel⟩
theorem BRel.row {w wr : World} {b t : Nat} {v8 : Value} {gs : List Nat} {rows : Nat → List Int} (h : BRel w wr b t v8 gs rows) (i j : Nat) (hi : i < gs.length) (hj : j < (rows i).length) :
    wr.cell? ⟨gs[i], j, none⟩ = some (.int .i64 (rd (rows i) (j : Int))) ∧ wr.frozen? ⟨gs[i], j, none⟩ = false := by
  refine ⟨?_, blk_frozen (h.blk i hi) j⟩
  rw [blk_cell (h.blk i hi)]
  simp [nums, rd, List.getD_eq_getElem?_getD, hj]
theorem BRel.tab {w wr : World} {b t : Nat} {v8 : Value} {gs : List Nat} {rows : Nat → List Int} (h : BRel w wr b t v8 gs rows) (hn : 0 < gs.length) : ∃ g c, v8 = .slice (some ⟨g, 0, none⟩) gs.length c ∧ ∀ i (hi : i < gs.length), wr.cell? ⟨g, i, none⟩ = some (rowV b gs[i]) := by
  obtain ⟨hl, ⟨rfl, h0⟩ | ⟨g, c, cur, rfl, hb, hcur, hle, hm, hsz, htk⟩⟩ := h.own
  · omega
  · refine ⟨g, c, rfl, fun i hi => ?_⟩
    have h1 : cur[i]? = (cur.toList.take (gs.length * 1))[i]? := by rw [List.getElem?_take_of_lt (by omega)]; simp
    rw [htk] at h1
    simp only [World.cell?, hcur]
    simp [h1, hi]
/-- A new row. -/
theorem BRel.push {w wr w3 : World} {b t : Nat} {v8 v' : Value} {gs : List Nat} {rows : Nat → List Int} (h : BRel w wr b t v8 gs rows)
    (hown : w3.ownsRow w.heap.size 22 1 v' (gs.length + 1) (gs.map (rowV b) ++ [rowV b wr.heap.size])) (o : Obj)
    (hg : ((wr.alloc (.cells (madeCells #[.int .i64 0] (b + 1)) 3)).alloc o).grownBy w3 v8.ownBlock) (rows' : Nat → List Int) (h1 : ∀ i, i < gs.length → rows' i = rows i) (h2 : rows' gs.length = List.replicate (b + 1) 0) :
    BRel w w3 b t v' (gs ++ [wr.heap.size]) rows' := by
  have hb2 := below_alloc (below_alloc h.bel (.cells (madeCells #[.int .i64 0] (b + 1)) 3)) o
  have hmk : (madeCells #[Value.int .i64 0] (b + 1)).toList = nums .i64 (List.replicate (b + 1) 0) := by
    apply List.ext_getElem
    · simp [nums, madeCells]
    · intro i h1 h2
      simp [nums, madeCells, Nat.mod_one]
  refine ⟨by rw [List.length_append, List.map_append]; exact hown, fun i hi => ?_, fun g hm => ?_, ?_, pw_below_grown hb2 _ hb2.size hg (fun k hk => own_base h.own k hk)⟩
  · by_cases e : i < gs.length
    · rw [List.getElem_append_left e, h1 i e]
      have hlt := blk_lt (h.blk i e)
      rw [hg.block _ (by simp; omega) (h.ne i e)]
      rw [Below.heap_alloc _ _ _ (by simp; omega), Below.heap_alloc _ _ _ hlt]
      exact h.blk i e
    · have ei : i = gs.length := by simp at hi; omega
      subst ei
      rw [List.getElem_append_right (by omega)]
      simp only [Nat.sub_self, List.getElem_cons_zero, h2]
      rw [hg.block _ (by simp; omega) (fun he => by have := own_lt h.own _ he.symm; omega), Below.heap_alloc _ _ _ (by simp)]
      have := heap_alloc_new wr (.cells (madeCells #[.int .i64 0] (b + 1)) 3)
      rw [this]
      congr 2
      rw [← hmk]
  · rcases List.mem_append.1 hm with h3 | h3
    · exact h.far g h3
    · have : g = wr.heap.size := by simpa using h3
      subst this; exact h.bel.size
  · have old : ∀ i (hi : i < gs.length), gs[i] < wr.heap.size := fun i hi => blk_lt (h.blk i hi)
    intro i j hi hj hij
    by_cases e1 : i < gs.length
    · rw [List.getElem_append_left e1] at hij
      by_cases e2 : j < gs.length
      · rw [List.getElem_append_left e2] at hij
        exact h.nd i j e1 e2 hij
      · rw [List.getElem_append_right (by omega)] at hij
        have := old i e1
        simp at hij; omega
    · rw [List.getElem_append_right (by omega)] at hij
      by_cases e2 : j < gs.length
      · rw [List.getElem_append_left e2] at hij
        have := old j e2
        simp at hij; omega
      · simp at hi hj; omega

theorem balPart_zero (b t x : Nat) : balPart b t x 0 = List.replicate (b + 1) 0 := by
  rw [replicate_tabF]
  exact tabF_congr fun j hj => by rw [if_neg (by omega)]
theorem balPart_same (b t x y : Nat) (h : bal t x y = 0) : balPart b t x (y + 1) = balPart b t x y := tabF_congr fun j hj => by
  by_cases e : j = y
  · subst e; rw [if_pos (by omega), if_neg (by omega), h]; rfl
  · by_cases h : j < y
    · rw [if_pos h, if_pos (by omega)]
    · rw [if_neg h, if_neg (by omega)]
theorem BRel.congr {w wr : World} {b t : Nat} {v8 : Value} {gs : List Nat} {rows rows' : Nat → List Int} (h : BRel w wr b t v8 gs rows) (he : ∀ i, i < gs.length → rows' i = rows i) : BRel w wr b t v8 gs rows' :=
  ⟨h.own, fun i hi => by rw [he i hi]; exact h.blk i hi, h.far, h.nd, h.bel⟩
theorem wI {i : Nat} (h : i ≤ 1000000) : wrap64 ((i : Int) + 1) = (i : Int) + 1 := by unfold wrap64; omega
theorem wmI {t y : Nat} (h : t * y ≤ 1000000) : wrap64 ((t : Int) * (y : Int)) = (t : Int) * (y : Int) := by
  rw [← Int.natCast_mul]; unfold wrap64; omega
theorem wyI {y z : Nat} (h : y = z + 1) (hb : y ≤ 1000000) : IntKind.i64.wrap ((y : Int) - 1) = (z : Int) := by rw [i64_w]; subst h; unfold wrap64; omega
theorem wbI {t x y : Nat} (h : x + y ≤ 60) : wrap64 ((bal t x y : Nat) : Int) = ((bal t x y : Nat) : Int) := by
  have := bal_small t x y h
  unfold wrap64; omega
theorem wdI {x : Nat} {X : Int} (hX : ((x + 1 : Nat) : Int) = X) (h : x ≤ 1000000) : wrap64 (X - 1) = (x : Int) := by subst hX; unfold wrap64; omega
def bRows (b t x y : Nat) : Nat → List Int := fun i => if i < x then balRow b t i else balPart b t i y
theorem bRows_len (b t x y i : Nat) : (bRows b t x y i).length = b + 1 := by
  unfold bRows
  split
  · exact balRow_length b t i
  · exact balPart_length b t i y
set_option maxHeartbeats 4000000 in
set_option maxRecDepth 100000 in
theorem refballot_main (a b t : Nat) (w : World) (ha : a ≤ 30) (hb : b ≤ 30) (ht1 : 1 ≤ t) (ht : t ≤ 30) :
    Calls Tryd.prog 25 #[.int .i64 a, .int .i64 b, .int .i64 t] w fun e w' => e = .returned (.tuple #[.int .i64 ((bal t a b : Nat) : Int), .int .i64 0]) ∧ Below w.heap.size w w' := by
  have info22 : (Tryd.prog.info? 22).map (fun i => (i.zero, i.size, i.bytes)) = some (some (.slice none 0 0), 1, 24) := by kernel_rfl
  obtain ⟨i0, hi, hz0, hz1, hz2⟩ := info_parts info22
  have info3 : (Tryd.prog.info? 3).map (fun i => (i.zero, i.size, i.bytes)) = some (some (.int .i64 0), 1, 8) := by kernel_rfl
  have hmk : ∀ W : World, (Instr.makeSlice 22 (.int .i64 ((b : Int) + 1)) (.int .i64 ((b : Int) + 1))).run Tryd.prog W = .ok (.slice (some ⟨W.heap.size, 0, none⟩) (b + 1) (b + 1)) (W.alloc (.cells (madeCells #[.int .i64 0] (b + 1)) 3)) := by
    have := print_make (P := Tryd.prog) 22 3 .i64 8 Tryd.underlying22 info3 (by decide) (b + 1) (by omega)
    rw [Int.natCast_succ] at this
    exact this
  have d1 : decide ((a : Int) < 0) = false := decide_eq_false (by omega)
  have d2 : decide ((30 : Int) < (a : Int)) = false := decide_eq_false (by omega)
  have d3 : decide ((b : Int) < 0) = false := decide_eq_false (by omega)
  have d4 : decide ((30 : Int) < (b : Int)) = false := decide_eq_false (by omega)
  have d5 : decide ((t : Int) < 1) = false := decide_eq_false (by omega)
  have d6 : decide ((30 : Int) < (t : Int)) = false := decide_eq_false (by omega)
  have HWb := Aside0.mk (wI (i := b) (by omega))
  go_enter Tryd.func25, Tryd.ntmps25
  go_wp2
  go_loopg [8, 9] (a + 1) (fun q v8 v9 wr => ∃ (x : Nat) (gs : List Nat), v9 = .int .i64 x ∧ x + q = a + 1 ∧ gs.length = x ∧ Aside0 (BRel w wr b t v8 gs (balRow b t)))
  case atStart => exact ⟨0, [], rfl, by omega, rfl, ⟨BRel.start (Below.refl _ _)⟩⟩
  case round =>
    obtain ⟨x, gs, rfl, hxq, hgs, HB⟩ := hrel
    by_cases hxa : x ≤ a
    · obtain ⟨q, rfl⟩ : ∃ q, gk = q + 1 := ⟨gk - 1, by omega⟩
      have hle : decide ((x : Int) ≤ (a : Int)) = true := decide_eq_true (by omega)
      have HWx := Aside0.mk (wI (i := x) (by omega))
      clear d1 d2 d3 d4 d5 d6
      have hwb := HWb.out
      go_wp2_with (at_builtin; refine wpList_append_own _ rfl _ _ 59 rfl w.heap.size 22 i0 (.slice none 0 0) 1 24 Tryd.underlying59 hi hz0 hz1 hz2 rfl (by decide) _ _ _ rfl (pw_own_below (pw_own_below HB.out.own (below_alloc (Below.refl _ _) _)) (below_alloc (Below.refl _ _) _)) ⟨wr.heap.size + 1, 0, none⟩ 1 1 [rowV b wr.heap.size] rfl rfl ?c1 ?c2 ?c3 ?c4 ?c5 ?_)
      case c1 =>
        have e : wr.heap.size + 1 = (wr.alloc (.cells (madeCells #[.int .i64 0] (b + 1)) 3)).heap.size := by simp
        rw [e]; exact cell_one_new _ _ _
      case c2 => intro u hu; simp at hu; subst hu; rfl
      case c3 => clear hwb; unfold maxLen; omega
      case c4 => clear hwb; omega
      case c5 => clear hwb; have := HB.out.bel.size; simp; omega
      intro v8' w3 hown3 hgrow3 _
      clear hwb
      have HB3 := Aside0.mk (HB.out.push (b := b) (by rw [hgs]; exact hown3) _ hgrow3 (bRows b t x 0) (fun i hi => by unfold bRows; rw [if_pos (by omega)]) (by unfold bRows; rw [if_neg (by omega), hgs]; exact balPart_zero b t x))
      clear hown3 hgrow3 hmk
      obtain ⟨G, hG⟩ : ∃ G, wr.heap.size = G := ⟨_, rfl⟩
      rw [hG] at HB3 ⊢
      obtain ⟨gs', hgs'⟩ : ∃ l, gs ++ [G] = l := ⟨_, rfl⟩
      have hgl : gs'.length = x + 1 := by rw [← hgs']; simp [hgs]
      have hgx : ∀ h : x < gs'.length, gs'[x] = G := fun h => by
        subst hgs'
        rw [List.getElem_append_right (by omega)]; simp [hgs]
      rw [hgs'] at HB3
      clear HB hG hgs hgs'
      go_wp2
      go_loopg [11] (b + 1) (fun q v11 wi => ∃ y : Nat, v11 = .int .i64 y ∧ y + q = b + 1 ∧ Aside0 (BRel w wi b t v8' gs' (bRows b t x y)))
      case atStart => exact ⟨0, rfl, by omega, HB3⟩
      case round =>
        clear HB3
        obtain ⟨y, rfl, hyq, HB⟩ := hrel
        by_cases hyb : y ≤ b
        · obtain ⟨p, rfl⟩ : ∃ p, gk = p + 1 := ⟨gk - 1, by omega⟩
          have dy : decide ((y : Int) ≤ (b : Int)) = true := decide_eq_true (by omega)
          have HWy := Aside0.mk (wI (i := y) (by omega))
          have hrow := HB.out.row x y (by omega) (by rw [bRows_len]; omega)
          rw [hgx (by omega)] at hrow
          by_cases h00 : x = 0 ∧ y = 0
          · obtain ⟨rfl, rfl⟩ := h00
            have HB2 := Aside0.mk (HB.out.set (rows' := bRows b t 0 1) 0 0 (by omega) 1 (by unfold bRows; rw [if_neg (by omega), if_neg (by omega)]; exact (balPart_set b t 0 0 1 (by rw [bal]; rfl)).symm) (fun i hi hne => by omega))
            rw [hgx (by omega)] at HB2
            obtain ⟨hr1, hr2⟩ := hrow
            clear HB
            have hwy := HWy.out
            go_wp2
            go_roundg p
            case measure => clear hwy; omega
            case rel => clear hwy; exact ⟨1, rfl, by omega, HB2⟩
          · have h900 : t * y ≤ 900 := Nat.le_trans (Nat.mul_le_mul ht (show y ≤ 30 by omega)) (by omega)
            have HWt := Aside0.mk (wmI (t := t) (y := y) (by omega))
            have hcmp : (x : Int) ≤ (t : Int) * (y : Int) ↔ x ≤ t * y := by rw [← Int.natCast_mul]; omega
            by_cases hle2 : x ≤ t * y
            · have hz := bal_low t x y hle2 (by omega)
              have dl : decide ((x : Int) ≤ wrap64 ((t : Int) * (y : Int))) = true := by rw [HWt.out]; exact decide_eq_true (hcmp.2 hle2)
              have HB2 := Aside0.mk (HB.out.congr (rows' := bRows b t x (y + 1)) (fun i hi => by unfold bRows; by_cases c : i < x; rw [if_pos c, if_pos c]; rw [if_neg c, if_neg c, show i = x by omega, balPart_same b t x y hz]))
              clear HB hrow hcmp hle2 hz
              by_cases hx0 : x = 0
              · have e1 : ((x : Int) == 0) = true := beq_iff_eq.2 (by omega)
                have e2 : ((y : Int) == 0) = false := beq_eq_false_iff_ne.2 (by omega)
                clear hx0
                clear h00 h900
                go_wp2
                go_roundg p
                case measure => omega
                case rel => exact ⟨y + 1, by rw [Int.natCast_succ], by omega, HB2⟩
              · have e1 : ((x : Int) == 0) = false := beq_eq_false_iff_ne.2 (by omega)
                clear hx0
                clear h00 h900
                go_wp2
                go_roundg p
                case measure => omega
                case rel => exact ⟨y + 1, by rw [Int.natCast_succ], by omega, HB2⟩
            · obtain ⟨x, rfl⟩ : ∃ m, x = m + 1 := ⟨x - 1, by cases x with | zero => exact absurd (Nat.zero_le _) hle2 | succ m => rfl⟩
              obtain ⟨X, hX⟩ : ∃ X : Int, ((x + 1 : Nat) : Int) = X := ⟨_, rfl⟩
              have dl : decide (X ≤ wrap64 ((t : Int) * (y : Int))) = false := by rw [HWt.out, ← hX]; exact decide_eq_false (fun h => hle2 (hcmp.1 h))
              have e1 : (X == 0) = false := beq_eq_false_iff_ne.2 (by omega)
              have e2 : decide (0 < X) = true := decide_eq_true (by omega)
              have HWX := Aside0.mk (wdI hX (by omega))
              have HGt : Aside0 (t * y < x + 1) := ⟨by omega⟩
              have HWxX : Aside0 (wrap64 (X + 1) = X + 1) := ⟨by rw [← hX]; exact HWx.out⟩
              have hprev := HB.out.row x y (by omega) (by rw [bRows_len]; omega)
              obtain ⟨gt, ct, hv8, htab⟩ := HB.out.tab (by omega)
              have hcur : rd (bRows b t (x + 1) y (x + 1)) (y : Int) = 0 := by
                unfold bRows; rw [if_neg (by omega), rd_balPart b t _ _ _ hyb, if_neg (by omega)]
              have hpr : rd (bRows b t (x + 1) y x) (y : Int) = ((bal t x y : Nat) : Int) := by
                unfold bRows; rw [if_pos (by omega), rd_balRow b t _ _ hyb]
              rw [hcur] at hrow
              rw [hpr] at hprev
              have htx := htab x (by omega)
              obtain ⟨gp, hgp⟩ : ∃ gp, gs'[x]'(by omega) = gp := ⟨_, rfl⟩
              rw [hgp] at htx hprev
              unfold rowV at htx
              subst hv8
              obtain ⟨r1, r2⟩ := hrow
              obtain ⟨r3, _⟩ := hprev
              rw [hX] at hle
              rw [hX]
              clear hcmp hle2 h00 h900 hcur hpr htab
              have hwXi : IntKind.i64.wrap (X - 1) = (x : Int) := (i64_w _).trans HWX.out
              have b1 : (y : Int) < (b : Int) + 1 := by omega
              have b2 : (x : Int) < (x : Int) + 1 := by omega
              go_wp2
              go_region
              have HV1 := Aside0.mk (wbI (t := t) (x := x) (y := y) (by omega))
              have HB1 := Aside0.mk ((HB.out.set (rows' := fun i => if i < x + 1 then balRow b t i else (balPart b t (x + 1) y).set y ((bal t x y : Nat) : Int)) (x + 1) y (by omega) ((bal t x y : Nat) : Int) (by unfold bRows; rw [if_neg (by omega), if_neg (by omega)]) (fun i hi hne => by unfold bRows; rw [if_pos (by omega), if_pos (by omega)])).drew)
              rw [hgx (by omega)] at HB1
              have HRl : ∀ i, i < gs'.length → i ≠ x + 1 → i < x + 1 := fun i h1 h2 => by omega
              by_cases hy0 : y = 0
              · have d0 : decide ((0 : Int) < (y : Int)) = false := decide_eq_false (by omega)
                have d0n : decide (0 < y) = false := decide_eq_false (by omega)
                have HB2 := Aside0.mk (HB1.out.congr (rows' := bRows b t (x + 1) (y + 1)) (fun i hi => by
                  unfold bRows
                  by_cases c : i < x + 1
                  · rw [if_pos c, if_pos c]
                  · have : i = x + 1 := by omega
                    subst this
                    rw [if_neg c, if_neg c]
                    exact (balPart_set b t (x + 1) y _ (by subst hy0; rw [bal])).symm))
                clear HB HB1 hy0
                go_wp2
                rw [HV1.out]
                subst hX
                go_roundg p
                case measure => omega
                case rel => exact ⟨y + 1, by rw [Int.natCast_succ], by omega, HB2⟩
              · obtain ⟨z, hz⟩ : ∃ z, y = z + 1 := ⟨y - 1, by omega⟩
                have d0 : decide ((0 : Int) < (y : Int)) = true := decide_eq_true (by omega)
                have d0n : decide (0 < y) = true := decide_eq_true (by omega)
                have hwz := wyI hz (by omega)
                have HZ := Aside0.mk hz
                clear hz
                go_wp2
                rw [HV1.out]
                obtain ⟨W1, hW1⟩ : ∃ W1, (wr.setCell ⟨G, y, none⟩ (.int .i64 ((bal t x y : Nat) : Int))).drew = W1 := ⟨_, rfl⟩
                rw [hW1] at HB1 ⊢
                clear hW1 r1 r2 r3 htx HB hwXi e1 e2 dl
                have q1 := HB1.out.row (x + 1) y (by omega) (by show y < (if x + 1 < x + 1 then _ else _ : List Int).length; rw [if_neg (by omega), List.length_set, balPart_length]; omega)
                have q2 := HB1.out.row (x + 1) z (by omega) (by have := HZ.out; show z < (if x + 1 < x + 1 then _ else _ : List Int).length; rw [if_neg (by omega), List.length_set, balPart_length]; omega)
                have v1 : rd ((fun i => if i < x + 1 then balRow b t i else (balPart b t (x + 1) y).set y ((bal t x y : Nat) : Int)) (x + 1)) (y : Int) = ((bal t x y : Nat) : Int) := by
                  show rd (if x + 1 < x + 1 then balRow b t (x + 1) else (balPart b t (x + 1) y).set y ((bal t x y : Nat) : Int)) (y : Int) = _
                  rw [if_neg (by omega)]; unfold balPart; rw [tabF_set, rd_tabF _ _ _ (by omega), if_pos rfl]
                have v2 : rd ((fun i => if i < x + 1 then balRow b t i else (balPart b t (x + 1) y).set y ((bal t x y : Nat) : Int)) (x + 1)) (z : Int) = ((bal t (x + 1) z : Nat) : Int) := by
                  have := HZ.out
                  show rd (if x + 1 < x + 1 then balRow b t (x + 1) else (balPart b t (x + 1) y).set y ((bal t x y : Nat) : Int)) (z : Int) = _
                  rw [if_neg (by omega)]; unfold balPart; rw [tabF_set, rd_tabF _ _ _ (by omega), if_neg (by omega), if_pos (by omega)]
                rw [v1, hgx (by omega)] at q1
                rw [v2, hgx (by omega)] at q2
                obtain ⟨q11, q12⟩ := q1
                obtain ⟨q21, _⟩ := q2
                have HV2 : Aside0 (wrap64 (((bal t x y : Nat) : Int) + ((bal t (x + 1) z : Nat) : Int)) = ((bal t (x + 1) y : Nat) : Int)) := ⟨by
                  have h1 := HZ.out
                  have h2 := bal_small t (x + 1) y (by omega)
                  subst h1
                  have hgt := HGt.out
                  rw [bal, if_pos hgt] at h2 ⊢
                  rw [← Int.natCast_add]
                  unfold wrap64; omega⟩
                have HB2 := Aside0.mk ((HB1.out.set (rows' := bRows b t (x + 1) (y + 1)) (x + 1) y (by omega) ((bal t (x + 1) y : Nat) : Int) (by
                  show bRows b t (x + 1) (y + 1) (x + 1) = (if x + 1 < x + 1 then balRow b t (x + 1) else (balPart b t (x + 1) y).set y ((bal t x y : Nat) : Int)).set y _
                  unfold bRows
                  rw [if_neg (by omega), if_neg (by omega), List.set_set]
                  exact (balPart_set b t (x + 1) y _ rfl).symm) (fun i hi hne => by
                  show bRows b t (x + 1) (y + 1) i = if i < x + 1 then balRow b t i else (balPart b t (x + 1) y).set y ((bal t x y : Nat) : Int)
                  unfold bRows; rw [if_pos (by omega), if_pos (by omega)])).drew)
                rw [hgx (by omega)] at HB2
                clear v1 v2 HB1
                have b3 : (z : Int) < (b : Int) + 1 := by have := HZ.out; omega
                obtain ⟨n1, hn1⟩ : ∃ n1 : Int, ((bal t x y : Nat) : Int) = n1 := ⟨_, rfl⟩
                obtain ⟨n2, hn2⟩ : ∃ n2 : Int, ((bal t (x + 1) z : Nat) : Int) = n2 := ⟨_, rfl⟩
                rw [hn1] at q11 HV2
                rw [hn2] at q21 HV2
                clear hn1 hn2 HV1
                go_region
                go_wp2
                rw [HV2.out]
                subst hX
                go_roundg p
                case measure => omega
                case rel => exact ⟨y + 1, by rw [Int.natCast_succ], by omega, HB2⟩
        · obtain rfl : gk = 0 := by omega
          obtain rfl : y = b + 1 := by omega
          have dy : decide (((b + 1 : Nat) : Int) ≤ (b : Int)) = false := decide_eq_false (by omega)
          have HB2 := Aside0.mk (HB.out.congr (rows' := balRow b t) (fun i hi => by
            unfold bRows
            by_cases c : i < x
            · rw [if_pos c]
            · rw [if_neg c]; exact (balPart_full b t i).symm))
          rw [Int.natCast_succ] at dy
          clear HB
          go_wp2
          go_roundg q
          case measure => omega
          case rel => exact ⟨x + 1, gs', by rw [Int.natCast_succ], by omega, hgl, HB2⟩
    · obtain rfl : gk = 0 := by omega
      obtain rfl : x = a + 1 := by omega
      have hle : decide (((a + 1 : Nat) : Int) ≤ (a : Int)) = false := decide_eq_false (by omega)
      rw [Int.natCast_succ] at hle
      obtain ⟨gt, ct, hv8, htab⟩ := HB.out.tab (by omega)
      have htx := htab a (by omega)
      have hr := (HB.out.row a b (by omega) (by rw [balRow_length]; omega)).1
      rw [rd_balRow b t a b (Nat.le_refl _)] at hr
      obtain ⟨g, hg⟩ : ∃ g, gs[a]'(by omega) = g := ⟨_, rfl⟩
      rw [hg] at htx hr
      unfold rowV at htx
      subst hv8
      have HBel := Aside0.mk HB.out.bel
      have b1 : (b : Int) < (b : Int) + 1 := by omega
      have b2 : (a : Int) < (a : Int) + 1 := by omega
      clear hg htab HB d1 d2 d3 d4 d5 d6
      go_wp2
      go_ret2
      exact ⟨rfl, HBel.out⟩

set_option maxHeartbeats 4000000 in
set_option maxRecDepth 100000 in
theorem pomaderef09_Ballot.calls (a0 a1 a2 : Int) (r1 r2 : Int) (w : World) (h : pomaderef09_Ballot.f a0 a1 a2 = some (r1, r2)) :
    Calls Tryd.prog 25 #[.int .i64 a0, .int .i64 a1, .int .i64 a2] w fun e w' => e = .returned (.tuple #[.int .i64 r1, .int .i64 r2]) ∧ Below w.heap.size w w' := by
  unfold pomaderef09_Ballot.f at h
  by_cases hc : a0 < 0 ∨ a0 > 30 ∨ a1 < 0 ∨ a1 > 30 ∨ a2 < 1 ∨ a2 > 30
  · rw [if_pos hc] at h
    simp only [Option.some.injEq, Prod.mk.injEq] at h
    obtain ⟨rfl, rfl⟩ := h
    have fin : ∀ p1 p2 p3 p4 p5 p6 : Bool, decide (a0 < 0) = p1 → decide (30 < a0) = p2 → decide (a1 < 0) = p3 → decide (30 < a1) = p4 → decide (a2 < 1) = p5 → decide (30 < a2) = p6 → (p1 || p2 || p3 || p4 || p5 || p6) = true →
        Calls Tryd.prog 25 #[.int .i64 a0, .int .i64 a1, .int .i64 a2] w fun e w' => e = .returned (.tuple #[.int .i64 0, .int .i64 2]) ∧ Below w.heap.size w w' := by
      intro p1 p2 p3 p4 p5 p6 h1 h2 h3 h4 h5 h6 hor
      clear hc
      cases p1 <;> cases p2 <;> cases p3 <;> cases p4 <;> cases p5 <;> cases p6 <;> first | (exact absurd hor (by decide)) | (go_enter Tryd.func25, Tryd.ntmps25; go_wp2; go_ret2; exact ⟨rfl, Below.refl _ _⟩)
    refine fin _ _ _ _ _ _ rfl rfl rfl rfl rfl rfl ?_
    simp only [Bool.or_eq_true, decide_eq_true_eq]
    omega
  · rw [if_neg hc] at h
    simp only [Option.some.injEq, Prod.mk.injEq] at h
    obtain ⟨rfl, rfl⟩ := h
    have e0 : (((a0.toNat : Nat) : Int)) = a0 := by omega
    have e1 : (((a1.toNat : Nat) : Int)) = a1 := by omega
    have e2 : (((a2.toNat : Nat) : Int)) = a2 := by omega
    have := refballot_main a0.toNat a1.toNat a2.toNat w (by omega) (by omega) (by omega) (by omega)
    rw [e0, e1, e2] at this
    exact this
/-! The reference's table and Sides, walked by hand. -/
open Go.Proofs.YtnjimbgfafkogaaDoor.Math

/-- A whole table: its rows' blocks, all from block lo on. -/
structure TRel (lo : Nat) (wr : World) (b : Nat) (v : Value) (gs : List Nat) (rows : Nat → List Int) : Prop where
  tab : ∃ g c cs fz, v = .slice (some ⟨g, 0, none⟩) gs.length c ∧ lo ≤ g ∧ wr.heap[g]? = some (.cells cs 22 fz) ∧ ∀ i (h : i < gs.length), cs[i]? = some (rowV b gs[i])
  blk : ∀ i (h : i < gs.length), wr.heap[gs[i]]? = some (.cells (nums .i64 (rows i)).toArray 3 (0, 0))
  far : ∀ g ∈ gs, lo ≤ g
  nd : ∀ i j (hi : i < gs.length) (hj : j < gs.length), gs[i] = gs[j] → i = j
theorem TRel.of {w wr : World} {b t : Nat} {v : Value} {gs : List Nat} {rows : Nat → List Int} (h : BRel w wr b t v gs rows) (hn : 0 < gs.length) : TRel w.heap.size wr b v gs rows := by
  refine ⟨?_, h.blk, h.far, h.nd⟩
  obtain ⟨hl, ⟨rfl, h0⟩ | ⟨g, c, cur, rfl, hb, hcur, hle, hm, hsz, htk⟩⟩ := h.own
  · omega
  · refine ⟨g, c, cur, _, rfl, hb, hcur, fun i hi => ?_⟩
    have h1 : cur[i]? = (cur.toList.take (gs.length * 1))[i]? := by rw [List.getElem?_take_of_lt (by omega)]; simp
    rw [htk] at h1
    simp [h1, hi]
theorem TRel.below {lo : Nat} {wr w1 : World} {b : Nat} {v : Value} {gs : List Nat} {rows : Nat → List Int} (h : TRel lo wr b v gs rows) (hb : Below wr.heap.size wr w1) : TRel lo w1 b v gs rows := by
  obtain ⟨g, c, cs, fz, h1, h2, h3, h4⟩ := h.tab
  exact ⟨⟨g, c, cs, fz, h1, h2, blk_below h3 hb, h4⟩, fun i hi => blk_below (h.blk i hi) hb, h.far, h.nd⟩
theorem TRel.congr {lo : Nat} {wr : World} {b : Nat} {v : Value} {gs : List Nat} {rows rows' : Nat → List Int} (h : TRel lo wr b v gs rows) (he : ∀ i, i < gs.length → rows' i = rows i) : TRel lo wr b v gs rows' :=
  ⟨h.tab, fun i hi => by rw [he i hi]; exact h.blk i hi, h.far, h.nd⟩
/-- A store elsewhere. -/
theorem TRel.off {lo : Nat} {wr : World} {b : Nat} {v : Value} {gs : List Nat} {rows : Nat → List Int} (h : TRel lo wr b v gs rows) {p : Addr} {t : TypeId} {cs0 : Array Value} (hp : wr.heap[p.block]? = some (.cells cs0 t (0, 0))) (ht : t ≠ 22) (hne : p.block ∉ gs) (u : Value) : TRel lo (wr.setCell p u) b v gs rows := by
  obtain ⟨g, c, cs, fz, h1, h2, h3, h4⟩ := h.tab
  refine ⟨⟨g, c, cs, fz, h1, h2, ?_, h4⟩, fun i hi => ?_, h.far, h.nd⟩
  · rw [Below.heap_setCell _ _ _ _ (fun e => by rw [e, hp] at h3; simp only [Option.some.injEq, Obj.cells.injEq] at h3; exact ht h3.2.1)]
    exact h3
  · rw [Below.heap_setCell _ _ _ _ (fun e => hne (e ▸ List.getElem_mem hi))]
    exact h.blk i hi
/-- A store into a row. -/
theorem TRel.set {lo : Nat} {wr : World} {b : Nat} {v : Value} {gs : List Nat} {rows rows' : Nat → List Int} (h : TRel lo wr b v gs rows) (x y : Nat) (hx : x < gs.length) (u : Int) (h1 : rows' x = (rows x).set y u) (h2 : ∀ i, i < gs.length → i ≠ x → rows' i = rows i) :
    TRel lo (wr.setCell ⟨gs[x], y, none⟩ (.int .i64 u)) b v gs rows' := by
  obtain ⟨g, c, cs, fz, k1, k2, k3, k4⟩ := h.tab
  have hg := h.blk x hx
  refine ⟨⟨g, c, cs, fz, k1, k2, ?_, k4⟩, fun i hi => ?_, h.far, h.nd⟩
  · rw [Below.heap_setCell _ _ _ _ (fun e => by
      have e : g = gs[x] := e
      rw [e, hg] at k3; simp at k3)]
    exact k3
  · by_cases e : i = x
    · subst e
      rw [blk_set (h.blk i hi), h1]
      simp [nums, List.map_set]
    · have hne : gs[i] ≠ gs[x] := fun he => e (h.nd i x hi hx he)
      rw [blk_far (h.blk i hi) (p := ⟨gs[x], y, none⟩) hne, h2 i hi e]
theorem TRel.row {lo : Nat} {wr : World} {b : Nat} {v : Value} {gs : List Nat} {rows : Nat → List Int} (h : TRel lo wr b v gs rows) (i j : Nat) (hi : i < gs.length) (hj : j < (rows i).length) :
    wr.cell? ⟨gs[i], j, none⟩ = some (.int .i64 (rd (rows i) (j : Int))) ∧ wr.frozen? ⟨gs[i], j, none⟩ = false := by
  refine ⟨?_, blk_frozen (h.blk i hi) j⟩
  rw [blk_cell (h.blk i hi)]
  simp [nums, rd, List.getD_eq_getElem?_getD, hj]
theorem TRel.cells {lo : Nat} {wr : World} {b : Nat} {v : Value} {gs : List Nat} {rows : Nat → List Int} (h : TRel lo wr b v gs rows) : ∃ g c, v = .slice (some ⟨g, 0, none⟩) gs.length c ∧ ∀ i (hi : i < gs.length), wr.cell? ⟨g, i, none⟩ = some (rowV b gs[i]) := by
  obtain ⟨g, c, cs, fz, h1, h2, h3, h4⟩ := h.tab
  refine ⟨g, c, h1, fun i hi => ?_⟩
  simp only [World.cell?, h3]
  simp [h4 i hi]

set_option maxHeartbeats 4000000 in
set_option maxRecDepth 100000 in
theorem table_calls (n : Nat) (hn : n ≤ 30) (w : World) : Calls Tryd.prog 60 #[.int .i64 n] w fun e w' => ∃ v gs, e = .returned v ∧ gs.length = 4 * n + 1 ∧ TRel w.heap.size w' (2 * n) v gs (fun _ => List.replicate (2 * n + 1) 0) ∧ Below w.heap.size w w' := by
  have info22 : (Tryd.prog.info? 22).map (fun i => (i.zero, i.size, i.bytes)) = some (some (.slice none 0 0), 1, 24) := by kernel_rfl
  obtain ⟨i0, hi, hz0, hz1, hz2⟩ := info_parts info22
  have info3 : (Tryd.prog.info? 3).map (fun i => (i.zero, i.size, i.bytes)) = some (some (.int .i64 0), 1, 8) := by kernel_rfl
  have hmk : ∀ W : World, (Instr.makeSlice 22 (.int .i64 (2 * (n : Int) + 1)) (.int .i64 (2 * (n : Int) + 1))).run Tryd.prog W = .ok (.slice (some ⟨W.heap.size, 0, none⟩) (2 * n + 1) (2 * n + 1)) (W.alloc (.cells (madeCells #[.int .i64 0] (2 * n + 1)) 3)) := by
    have := print_make (P := Tryd.prog) 22 3 .i64 8 Tryd.underlying22 info3 (by decide) (2 * n + 1) (by omega)
    rw [show ((2 * n + 1 : Nat) : Int) = 2 * (n : Int) + 1 by omega] at this
    exact this
  have w2 : wrap64 (2 * (n : Int)) = 2 * (n : Int) := by unfold wrap64; omega
  have w3 : wrap64 (2 * (n : Int) + 1) = 2 * (n : Int) + 1 := by unfold wrap64; omega
  have w4 : wrap64 (4 * (n : Int)) = 4 * (n : Int) := by unfold wrap64; omega
  go_enter Tryd.func60, Tryd.ntmps60
  go_wp2
  go_loopg [3, 4] (4 * n + 1) (fun q v8 v9 wr => ∃ (x : Nat) (gs : List Nat), v9 = .int .i64 x ∧ x + q = 4 * n + 1 ∧ gs.length = x ∧ Aside0 (BRel w wr (2 * n) 0 v8 gs (fun _ => List.replicate (2 * n + 1) 0)))
  case atStart => exact ⟨0, [], rfl, by omega, rfl, ⟨BRel.start (Below.refl _ _)⟩⟩
  case round =>
    obtain ⟨x, gs, rfl, hxq, hgs, HB⟩ := hrel
    by_cases hxa : x ≤ 4 * n
    · obtain ⟨q, rfl⟩ : ∃ q, gk = q + 1 := ⟨gk - 1, by omega⟩
      have hle : decide ((x : Int) ≤ 4 * (n : Int)) = true := decide_eq_true (by omega)
      have HWx := wI (i := x) (by omega)
      go_wp2_with (at_builtin; refine wpList_append_own _ rfl _ _ 59 rfl w.heap.size 22 i0 (.slice none 0 0) 1 24 Tryd.underlying59 hi hz0 hz1 hz2 rfl (by decide) _ _ _ rfl (pw_own_below (pw_own_below HB.out.own (below_alloc (Below.refl _ _) _)) (below_alloc (Below.refl _ _) _)) ⟨wr.heap.size + 1, 0, none⟩ 1 1 [rowV (2 * n) wr.heap.size] rfl rfl ?c1 ?c2 ?c3 ?c4 ?c5 ?_)
      case c1 =>
        have e : wr.heap.size + 1 = (wr.alloc (.cells (madeCells #[.int .i64 0] (2 * n + 1)) 3)).heap.size := by simp
        rw [e]; exact cell_one_new _ _ _
      case c2 => intro u hu; simp at hu; subst hu; rfl
      case c3 => unfold maxLen; omega
      case c4 => omega
      case c5 => have := HB.out.bel.size; simp; omega
      intro v8' w3 hown3 hgrow3 _
      have HB3 := Aside0.mk (HB.out.push (b := 2 * n) (by rw [hgs]; exact hown3) _ hgrow3 (fun _ => List.replicate (2 * n + 1) 0) (fun _ _ => rfl) rfl)
      clear hown3 hgrow3 hmk
      obtain ⟨G, hG⟩ : ∃ G, wr.heap.size = G := ⟨_, rfl⟩
      rw [hG] at HB3
      clear HB hG
      go_wp2
      go_roundg q
      case measure => omega
      case rel => exact ⟨x + 1, gs ++ [G], by rw [Int.natCast_succ], by omega, by simp [hgs], HB3⟩
    · obtain rfl : gk = 0 := by omega
      obtain rfl : x = 4 * n + 1 := by omega
      have hle : decide (((4 * n + 1 : Nat) : Int) ≤ 4 * (n : Int)) = false := decide_eq_false (by omega)
      rw [show ((4 * n + 1 : Nat) : Int) = 4 * (n : Int) + 1 by omega] at hle
      go_wp2
      go_ret
      exact ⟨_, rfl, gs, hgs, TRel.of HB.out (by omega), HB.out.bel⟩
/-! The reference's Sides, walked by hand. -/
open Go.Proofs.YtnjimbgfafkogaaDoor.Math

def aF (s m : Nat) : Nat → Nat → Nat := fun x k => Math.A s ((x : Int) - m) k
def rowA (s m x : Nat) : List Int := tabF (fun k => (aF s m x k : Int)) (m + 1)
def rowP (s m x k d y : Nat) : List Int := tabF (fun j => (P m (aF s m) x k d y j : Int)) (m + 1)
theorem rowA_start (m x : Nat) (hx : x ≠ m) : rowA 0 m x = List.replicate (m + 1) 0 := by
  rw [replicate_tabF]
  exact tabF_congr fun k _ => by unfold aF; rw [A_zero 0 _ _ (by omega)]; rfl
theorem rowA_mid (m : Nat) : rowA 0 m m = (List.replicate (m + 1) 0).set 0 1 := by
  rw [replicate_tabF, tabF_set]
  exact tabF_congr fun k _ => by
    unfold aF
    rw [Math.A]
    by_cases e : k = 0
    · rw [if_pos ⟨by omega, e⟩, if_pos e]; rfl
    · rw [if_neg (by omega), if_neg e]; rfl
theorem rowP_start (s m y : Nat) : rowP s m 0 0 0 y = List.replicate (m + 1) 0 := by
  rw [replicate_tabF]
  exact tabF_congr fun j _ => by rw [P_start]; rfl
theorem rowP_end (s m y : Nat) (hs : s < m) (hy : y ≤ 2 * m) : rowP s m (2 * m + 1) 0 0 y = rowA (s + 1) m y :=
  tabF_congr fun j _ => congrArg (fun a : Nat => (a : Int)) (P_end s m y j hs hy)
theorem TRel.drew {lo : Nat} {wr : World} {b : Nat} {v : Value} {gs : List Nat} {rows : Nat → List Int} (h : TRel lo wr b v gs rows) : TRel lo wr.drew b v gs rows := h.below (below_drew (Below.refl _ _))
/-- Where there are walks. -/
theorem aF_reach {s n x k : Nat} (hs : s < 2 * n) (h : aF s (2 * n) x k ≠ 0) : 1 ≤ x ∧ x + 1 ≤ 4 * n ∧ k + 1 ≤ 2 * n := by
  by_cases c : 1 ≤ x ∧ x + 1 ≤ 4 * n ∧ k + 1 ≤ 2 * n
  · exact c
  · exact absurd (A_zero s _ _ (by omega)) h
theorem rowP_down (s m x k y : Nat) (hx : 1 ≤ x) (hy : y + 1 = x) : rowP s m x k 1 y = (rowP s m x k 0 y).set (if x > m then k + 1 else k) ((P m (aF s m) x k 0 y (if x > m then k + 1 else k) + aF s m x k : Nat) : Int) := by
  unfold rowP
  rw [tabF_set]
  refine tabF_congr fun j _ => ?_
  rw [P_down m _ x k y j hx]
  by_cases c : j = if x > m then k + 1 else k
  · rw [if_pos ⟨hy, c⟩, if_pos c, c]
  · rw [if_neg (fun h => c h.2), if_neg c]
theorem rowP_down_off (s m x k y : Nat) (hx : 1 ≤ x) (hy : y + 1 ≠ x) : rowP s m x k 1 y = rowP s m x k 0 y :=
  tabF_congr fun j _ => by rw [P_down m _ x k y j hx, if_neg (fun h => hy h.1)]
theorem rowP_up (s m x k : Nat) : rowP s m x k 2 (x + 1) = (rowP s m x k 1 (x + 1)).set (if x + 1 > m then k + 1 else k) ((P m (aF s m) x k 1 (x + 1) (if x + 1 > m then k + 1 else k) + aF s m x k : Nat) : Int) := by
  unfold rowP
  rw [tabF_set]
  refine tabF_congr fun j _ => ?_
  rw [P_up m _ x k (x + 1) j]
  by_cases c : j = if x + 1 > m then k + 1 else k
  · rw [if_pos ⟨rfl, c⟩, if_pos c, c]
  · rw [if_neg (fun h => c h.2), if_neg c]
theorem rowP_up_off (s m x k y : Nat) (hy : y ≠ x + 1) : rowP s m x k 2 y = rowP s m x k 1 y :=
  tabF_congr fun j _ => by rw [P_up m _ x k y j, if_neg (fun h => hy h.1)]
theorem rowP_next (s m x k y : Nat) : rowP s m x (k + 1) 0 y = rowP s m x k 2 y := tabF_congr fun j _ => by rw [P_next]
theorem rowP_skip (s m x k y : Nat) (h : aF s m x k = 0) : rowP s m x (k + 1) 0 y = rowP s m x k 0 y := tabF_congr fun j _ => by rw [P_skip m _ x k y j h]
theorem rowP_row (s m x y : Nat) (hs : s < m) : rowP s m (x + 1) 0 0 y = rowP s m x (m + 1) 0 y := tabF_congr fun j _ => by
  rw [P_row m (aF s m) x y j fun x k hk => A_zero s _ _ (by omega)]
theorem rowP_length (s m x k d y : Nat) : (rowP s m x k d y).length = m + 1 := tabF_length _ _
theorem rd_rowP (s m x k d y j : Nat) (h : j ≤ m) : rd (rowP s m x k d y) (j : Int) = (P m (aF s m) x k d y j : Int) := rd_tabF _ _ _ (by omega)
theorem aF_le (s m x k : Nat) (hs : s ≤ 60) : aF s m x k ≤ 1152921504606846976 := Nat.le_trans (A_le s _ _) (Nat.pow_le_pow_right (by omega) hs)
theorem PaF_le (s m x k d y j : Nat) (hs : s ≤ 60) : P m (aF s m) x k d y j ≤ 2305843009213693952 := P_le m 1152921504606846976 _ (fun x k => aF_le s m x k hs) x k d y j
def sumO (n x k : Nat) : Nat := usum (fun x => aF (2 * n) (2 * n) x (2 * k)) x
/-- The sums in the middle. -/
def rowO (n x k : Nat) : List Int := tabF (fun j => if j < k then (sumO n (x + 1) j : Int) else (sumO n x j : Int)) (n + 1)
theorem rowO_start (n : Nat) : rowO n 0 0 = List.replicate (n + 1) 0 := by
  rw [replicate_tabF]
  exact tabF_congr fun j _ => by rw [if_neg (by omega)]; rfl
theorem rowO_next (n x : Nat) : rowO n x (n + 1) = rowO n (x + 1) 0 := tabF_congr fun j hj => by rw [if_pos hj, if_neg (by omega)]
theorem rowO_set (n x k : Nat) : rowO n x (k + 1) = (rowO n x k).set k (sumO n (x + 1) k : Int) := by
  unfold rowO
  rw [tabF_set]
  refine tabF_congr fun j _ => ?_
  by_cases e : j = k
  · subst e; rw [if_pos (by omega), if_pos rfl]
  · by_cases h : j < k
    · rw [if_pos (by omega), if_neg e, if_pos h]
    · rw [if_neg (by omega), if_neg e, if_neg h]
theorem sumO_succ (n x k : Nat) : sumO n (x + 1) k = sumO n x k + aF (2 * n) (2 * n) x (2 * k) := rfl
theorem rowO_length (n x k : Nat) : (rowO n x k).length = n + 1 := tabF_length _ _
theorem own_block {w : World} {lo G : Nat} {xs : List Int} (h : w.heap[G]? = some (.cells (nums .i64 xs).toArray 3 (0, 0))) (hb : lo ≤ G) (hl : xs.length ≤ 1000) : w.ownsRow lo 3 1 (.slice (some ⟨G, 0, none⟩) xs.length xs.length) xs.length (nums .i64 xs) :=
  ⟨by simp [nums], .inr ⟨G, xs.length, (nums .i64 xs).toArray, rfl, hb, h, Nat.le_refl _, by simp only [maxLen]; omega, by simp [nums], by rw [Nat.mul_one]; exact List.take_of_length_le (by simp [nums])⟩⟩
set_option maxHeartbeats 4000000 in
set_option maxRecDepth 100000 in
theorem sides_main (n : Nat) (hn : n ≤ 30) (hb : Aside0 (∀ k, k ≤ n → usum (fun x => aF (2 * n) (2 * n) x (2 * k)) (4 * n + 1) ≤ 4611686018427387904)) (w : World) : Calls Tryd.prog 31 #[.int .i64 n] w fun e w' => ∃ v, e = .returned (.tuple #[v, .int .i64 0]) ∧ Kd.R (Kd.int .i64) 3 w' w.heap.size (fun _ => True) v (tabF (fun k => ((usum (fun x => aF (2 * n) (2 * n) x (2 * k)) (4 * n + 1) : Nat) : Int)) (n + 1)) ∧ Below w.heap.size w w' := by
  have w2 : wrap64 (2 * (n : Int)) = 2 * (n : Int) := by unfold wrap64; omega
  have w4 : wrap64 (4 * (n : Int)) = 4 * (n : Int) := by unfold wrap64; omega
  have wn : wrap64 ((n : Int) + 1) = (n : Int) + 1 := by unfold wrap64; omega
  have d1 : decide ((n : Int) < 0) = false := decide_eq_false (by omega)
  have d2 : decide ((30 : Int) < (n : Int)) = false := decide_eq_false (by omega)
  go_enter Tryd.func31, Tryd.ntmps31
  go_wp2_with (go_at_call 60; refine (table_calls n hn _).mono ?_; rintro e w1 ⟨v, gs, rfl, hgl, hT, hB⟩; obtain ⟨gt, ct, hv, hcs⟩ := hT.cells; have htx := hcs (2 * n) (by omega); obtain ⟨hr1, hr2⟩ := hT.row (2 * n) 0 (by omega) (by simp); obtain ⟨g, hg⟩ : ∃ g, gs[2 * n]'(by omega) = g := ⟨_, rfl⟩; rw [hg] at htx hr1 hr2; unfold rowV at htx; subst hv; have HG := Aside0.mk hg; have HT := Aside0.mk hT; have HB := Aside0.mk hB; rw [hgl]; clear hT hB hg hcs)
  go_loopg [4, 5] (2 * n) (fun q v4 v5 wr => ∃ (s : Nat) (hs : List Nat), v5 = .int .i64 s ∧ s + q = 2 * n ∧ hs.length = 4 * n + 1 ∧ Aside0 (TRel w.heap.size wr (2 * n) v4 hs (rowA s (2 * n))) ∧ Aside0 (Below w.heap.size w wr))
  case atStart =>
    have hset := HT.out.set (rows' := rowA 0 (2 * n)) (2 * n) 0 (by omega) 1 (rowA_mid (2 * n)) (fun i _ hne => rowA_start (2 * n) i hne)
    rw [HG.out, hgl] at hset
    exact ⟨0, gs, rfl, by omega, hgl, ⟨hset⟩, ⟨HB.out.setCell (HG.out ▸ HT.out.far _ (List.getElem_mem _)) _⟩⟩
  case round =>
    clear hr1 hr2 htx HT HB HG hgl
    obtain ⟨s, hs, rfl, hsq, hhl, HT, HB⟩ := hrel
    obtain ⟨gt, ct, hv, _⟩ := HT.out.cells
    subst hv
    rw [hhl] at HT ⊢
    by_cases hsn : s < 2 * n
    · obtain ⟨q, rfl⟩ : ∃ q, gk = q + 1 := ⟨gk - 1, by omega⟩
      have hle : decide ((s : Int) < 2 * (n : Int)) = true := decide_eq_true (by omega)
      go_wp2_with (go_at_call 60; refine (table_calls n hn _).mono ?_; rintro e w2 ⟨v6, hs2, rfl, hl2, hT2, hB2⟩; obtain ⟨gt2, ct2, hv, _⟩ := hT2.cells; subst hv; rw [hl2] at hT2 ⊢; have HT2 := Aside0.mk (hT2.congr (rows' := rowP s (2 * n) 0 0 0) (fun i _ => rowP_start s (2 * n) i)); have HTn := Aside0.mk (HT.out.below hB2); have HBn := Aside0.mk (HB.out.trans (hB2.mono HB.out.size)); have HD : Aside0 (∀ g ∈ hs2, g ∉ hs) := ⟨fun g h1 h2 => by have e1 := hT2.far g h1; obtain ⟨i, hi, e⟩ := List.getElem_of_mem h2; have e2 := blk_lt (HT.out.blk i hi); omega⟩; have HL2 : Aside0 (∀ g ∈ hs2, w.heap.size ≤ g) := ⟨fun g h1 => Nat.le_trans HB.out.size (hT2.far g h1)⟩; obtain ⟨lo2, hlo2⟩ : ∃ l, wr.heap.size = l := ⟨_, rfl⟩; rw [hlo2] at HT2; have HLo : Aside0 (w.heap.size ≤ lo2) := ⟨hlo2 ▸ HB.out.size⟩; clear hT2 hB2 hlo2)
      clear HT HB
      go_loopg [7] (4 * n + 1) (fun q v7 wi => ∃ x : Nat, v7 = .int .i64 x ∧ x + q = 4 * n + 1 ∧ Aside0 (TRel w.heap.size wi (2 * n) (.slice (some ⟨gt, 0, none⟩) (4 * n + 1) ct) hs (rowA s (2 * n))) ∧ Aside0 (TRel lo2 wi (2 * n) (.slice (some ⟨gt2, 0, none⟩) (4 * n + 1) ct2) hs2 (rowP s (2 * n) x 0 0)) ∧ Aside0 (Below w.heap.size w wi))
      case atStart => exact ⟨0, rfl, by omega, HTn, HT2, HBn⟩
      case round =>
        clear HTn HT2 HBn
        obtain ⟨x, rfl, hxq, HTn, HT2, HBn⟩ := hrel
        by_cases hx : x ≤ 4 * n
        · obtain ⟨p, rfl⟩ : ∃ p, gk = p + 1 := ⟨gk - 1, by omega⟩
          have hxd : decide ((x : Int) ≤ 4 * (n : Int)) = true := decide_eq_true (by omega)
          go_wp2
          go_loopg [8] (2 * n + 1) (fun q v8 wi => ∃ k : Nat, v8 = .int .i64 k ∧ k + q = 2 * n + 1 ∧ Aside0 (TRel w.heap.size wi (2 * n) (.slice (some ⟨gt, 0, none⟩) (4 * n + 1) ct) hs (rowA s (2 * n))) ∧ Aside0 (TRel lo2 wi (2 * n) (.slice (some ⟨gt2, 0, none⟩) (4 * n + 1) ct2) hs2 (rowP s (2 * n) x k 0)) ∧ Aside0 (Below w.heap.size w wi))
          case atStart => exact ⟨0, rfl, by omega, HTn, HT2, HBn⟩
          case round =>
            clear HTn HT2 HBn
            obtain ⟨k, rfl, hkq, HTn, HT2, HBn⟩ := hrel
            by_cases hk : k ≤ 2 * n
            · obtain ⟨r, rfl⟩ : ∃ r, gk = r + 1 := ⟨gk - 1, by omega⟩
              have hkd : decide ((k : Int) ≤ 2 * (n : Int)) = true := decide_eq_true (by omega)
              obtain ⟨c, hc⟩ : ∃ c, aF s (2 * n) x k = c := ⟨_, rfl⟩
              have HC := Aside0.mk hc
              clear hc
              go_wp2
              go_loopg [9] 2 (fun q v9 wi => ∃ d : Nat, v9 = .int .i64 (2 * (d : Int) - 1) ∧ d + q = 2 ∧ (c = 0 → d = 0) ∧ Aside0 (TRel w.heap.size wi (2 * n) (.slice (some ⟨gt, 0, none⟩) (4 * n + 1) ct) hs (rowA s (2 * n))) ∧ Aside0 (TRel lo2 wi (2 * n) (.slice (some ⟨gt2, 0, none⟩) (4 * n + 1) ct2) hs2 (rowP s (2 * n) x k d)) ∧ Aside0 (Below w.heap.size w wi))
              case atStart => exact ⟨0, rfl, by omega, fun _ => rfl, HTn, HT2, HBn⟩
              case round =>
                clear HTn HT2 HBn
                obtain ⟨d, rfl, hdq, hcd, HTn, HT2, HBn⟩ := hrel
                obtain ⟨gg, cc, hv, hcs⟩ := HTn.out.cells
                have hx1 := hcs x (by omega)
                obtain ⟨rfl, _, rfl⟩ : gt = gg ∧ hs.length = hs.length ∧ ct = cc := by simp at hv; exact ⟨hv.1, rfl, hv.2.2⟩
                have hk1 := (HTn.out.row x k (by omega) (by unfold rowA; rw [tabF_length]; omega)).1
                have hrd : rd (rowA s (2 * n) x) (k : Int) = (c : Int) := by unfold rowA; rw [rd_tabF _ _ _ (by omega), HC.out]
                rw [hrd] at hk1
                obtain ⟨gx, hgx⟩ : ∃ gx, hs[x]'(by omega) = gx := ⟨_, rfl⟩
                rw [hgx] at hx1 hk1
                unfold rowV at hx1
                clear hcs hv hrd hgx
                by_cases hd2 : d = 2
                · subst hd2
                  have HS := Aside0.mk (HT2.out.congr (rows' := rowP s (2 * n) x (k + 1) 0) (fun i _ => rowP_next s (2 * n) x k i))
                  go_wp2
                  go_roundg r
                  case measure => omega
                  case rel => exact ⟨k + 1, by rw [Int.natCast_succ], by omega, HTn, HS, HBn⟩
                · by_cases hc0 : c = 0
                  · obtain rfl := hcd hc0
                    have hcp : decide ((0 : Int) < (c : Int)) = false := decide_eq_false (by omega)
                    have HS := Aside0.mk (HT2.out.congr (rows' := rowP s (2 * n) x (k + 1) 0) (fun i _ => rowP_skip s (2 * n) x k i (by rw [HC.out]; exact hc0)))
                    go_wp2
                    go_roundg r
                    case measure => omega
                    case rel => exact ⟨k + 1, by rw [Int.natCast_succ], by omega, HTn, HS, HBn⟩
                  · have hcp : decide ((0 : Int) < (c : Int)) = true := decide_eq_true (by omega)
                    have hr := aF_reach hsn (by rw [HC.out]; exact hc0)
                    have hcle := aF_le s (2 * n) x k (by omega)
                    rw [HC.out] at hcle
                    obtain ⟨g2, c2, hv2, hcs2⟩ := HT2.out.cells
                    obtain ⟨rfl, rfl⟩ : gt2 = g2 ∧ ct2 = c2 := by simp at hv2; exact ⟨hv2.1, hv2.2.2⟩
                    clear hv2
                    by_cases hd0 : d = 0
                    · subst hd0
                      obtain ⟨y, hy⟩ : ∃ y : Nat, (x : Int) + -1 = (y : Int) := ⟨x - 1, by omega⟩
                      by_cases hxm : x ≤ 2 * n
                      · -- below
                        have hif : (if x > 2 * n then k + 1 else k) = k := if_neg (by omega)
                        have hy1 := hcs2 y (by omega)
                        obtain ⟨hj1, hj2⟩ := HT2.out.row y (k) (by omega) (by rw [rowP_length]; omega)
                        rw [rd_rowP s (2 * n) x k 0 y (k) (by omega)] at hj1
                        have hle1 := PaF_le s (2 * n) x k 0 y (k) (by omega)
                        obtain ⟨e, he⟩ : ∃ e, P (2 * n) (aF s (2 * n)) x k 0 y (k) = e := ⟨_, rfl⟩
                        obtain ⟨gy, hgy⟩ : ∃ gy, hs2[y]'(by omega) = gy := ⟨_, rfl⟩
                        have hmem : gy ∈ hs2 := hgy ▸ List.getElem_mem _
                        rw [he] at hj1 hle1
                        have hset := HT2.out.set (rows' := rowP s (2 * n) x k 1) y (k) (by omega) ((e + c : Nat) : Int) (by have := rowP_down s (2 * n) x k y hr.1 (by omega); rw [hif, he, HC.out] at this; exact this) (fun i _ hne => rowP_down_off s (2 * n) x k i hr.1 (by omega))
                        have hgyb := HT2.out.blk y (by omega)
                        rw [hgy] at hj1 hj2 hy1 hset hgyb
                        have HS := Aside0.mk hset.drew
                        have HTn2 := Aside0.mk ((HTn.out.off (p := ⟨gy, k, none⟩) hgyb (by decide) (HD.out gy hmem) (.int .i64 ((e + c : Nat) : Int))).drew)
                        have HBn2 := Aside0.mk (below_drew (HBn.out.setCell (p := ⟨gy, k, none⟩) (HL2.out gy hmem) (.int .i64 ((e + c : Nat) : Int))))
                        unfold rowV at hy1
                        have hwec : IntKind.i64.wrap ((e : Int) + (c : Int)) = ((e + c : Nat) : Int) := by rw [i64_w]; unfold wrap64; omega
                        clear hset hgyb hmem hgy he hif HT2 HTn HBn hcs2 hle1
                        go_wp2
                        go_region
                        go_wp2
                        go_roundg 1
                        case measure => omega
                        case rel => exact ⟨1, congrArg (Value.int .i64) (by omega), by omega, fun h => absurd h hc0, HTn2, HS, HBn2⟩
                      · -- above
                        have hif : (if x > 2 * n then k + 1 else k) = k + 1 := if_pos (by omega)
                        have hy1 := hcs2 y (by omega)
                        obtain ⟨hj1, hj2⟩ := HT2.out.row y (k + 1) (by omega) (by rw [rowP_length]; omega)
                        rw [rd_rowP s (2 * n) x k 0 y (k + 1) (by omega)] at hj1
                        have hle1 := PaF_le s (2 * n) x k 0 y (k + 1) (by omega)
                        obtain ⟨e, he⟩ : ∃ e, P (2 * n) (aF s (2 * n)) x k 0 y (k + 1) = e := ⟨_, rfl⟩
                        obtain ⟨gy, hgy⟩ : ∃ gy, hs2[y]'(by omega) = gy := ⟨_, rfl⟩
                        have hmem : gy ∈ hs2 := hgy ▸ List.getElem_mem _
                        rw [he] at hj1 hle1
                        have hset := HT2.out.set (rows' := rowP s (2 * n) x k 1) y (k + 1) (by omega) ((e + c : Nat) : Int) (by have := rowP_down s (2 * n) x k y hr.1 (by omega); rw [hif, he, HC.out] at this; exact this) (fun i _ hne => rowP_down_off s (2 * n) x k i hr.1 (by omega))
                        have hgyb := HT2.out.blk y (by omega)
                        rw [hgy] at hj1 hj2 hy1 hset hgyb
                        have HS := Aside0.mk hset.drew
                        have HTn2 := Aside0.mk ((HTn.out.off (p := ⟨gy, k + 1, none⟩) hgyb (by decide) (HD.out gy hmem) (.int .i64 ((e + c : Nat) : Int))).drew)
                        have HBn2 := Aside0.mk (below_drew (HBn.out.setCell (p := ⟨gy, k + 1, none⟩) (HL2.out gy hmem) (.int .i64 ((e + c : Nat) : Int))))
                        unfold rowV at hy1
                        have hwec : IntKind.i64.wrap ((e : Int) + (c : Int)) = ((e + c : Nat) : Int) := by rw [i64_w]; unfold wrap64; omega
                        clear hset hgyb hmem hgy he hif HT2 HTn HBn hcs2 hle1
                        go_wp2
                        go_region
                        go_wp2
                        go_roundg 1
                        case measure => omega
                        case rel => exact ⟨1, congrArg (Value.int .i64) (by omega), by omega, fun h => absurd h hc0, HTn2, HS, HBn2⟩
                    · obtain rfl : d = 1 := by omega
                      by_cases hxm : x + 1 ≤ 2 * n
                      · -- below
                        have hif : (if x + 1 > 2 * n then k + 1 else k) = k := if_neg (by omega)
                        have hy1 := hcs2 (x + 1) (by omega)
                        obtain ⟨hj1, hj2⟩ := HT2.out.row (x + 1) (k) (by omega) (by rw [rowP_length]; omega)
                        rw [rd_rowP s (2 * n) x k 1 (x + 1) (k) (by omega)] at hj1
                        have hle1 := PaF_le s (2 * n) x k 1 (x + 1) (k) (by omega)
                        obtain ⟨e, he⟩ : ∃ e, P (2 * n) (aF s (2 * n)) x k 1 (x + 1) (k) = e := ⟨_, rfl⟩
                        obtain ⟨gy, hgy⟩ : ∃ gy, hs2[(x + 1)]'(by omega) = gy := ⟨_, rfl⟩
                        have hmem : gy ∈ hs2 := hgy ▸ List.getElem_mem _
                        rw [he] at hj1 hle1
                        have hset := HT2.out.set (rows' := rowP s (2 * n) x k 2) (x + 1) (k) (by omega) ((e + c : Nat) : Int) (by have := rowP_up s (2 * n) x k; rw [hif, he, HC.out] at this; exact this) (fun i _ hne => rowP_up_off s (2 * n) x k i (by omega))
                        have hgyb := HT2.out.blk (x + 1) (by omega)
                        rw [hgy] at hj1 hj2 hy1 hset hgyb
                        have HS := Aside0.mk hset.drew
                        have HTn2 := Aside0.mk ((HTn.out.off (p := ⟨gy, k, none⟩) hgyb (by decide) (HD.out gy hmem) (.int .i64 ((e + c : Nat) : Int))).drew)
                        have HBn2 := Aside0.mk (below_drew (HBn.out.setCell (p := ⟨gy, k, none⟩) (HL2.out gy hmem) (.int .i64 ((e + c : Nat) : Int))))
                        unfold rowV at hy1
                        have hwec : IntKind.i64.wrap ((e : Int) + (c : Int)) = ((e + c : Nat) : Int) := by rw [i64_w]; unfold wrap64; omega
                        clear hset hgyb hmem hgy he hif HT2 HTn HBn hcs2 hle1
                        go_wp2
                        go_region
                        go_wp2
                        go_roundg 0
                        case measure => omega
                        case rel => exact ⟨2, congrArg (Value.int .i64) (by omega), by omega, fun h => absurd h hc0, HTn2, HS, HBn2⟩
                      · -- above
                        have hif : (if x + 1 > 2 * n then k + 1 else k) = k + 1 := if_pos (by omega)
                        have hy1 := hcs2 (x + 1) (by omega)
                        obtain ⟨hj1, hj2⟩ := HT2.out.row (x + 1) (k + 1) (by omega) (by rw [rowP_length]; omega)
                        rw [rd_rowP s (2 * n) x k 1 (x + 1) (k + 1) (by omega)] at hj1
                        have hle1 := PaF_le s (2 * n) x k 1 (x + 1) (k + 1) (by omega)
                        obtain ⟨e, he⟩ : ∃ e, P (2 * n) (aF s (2 * n)) x k 1 (x + 1) (k + 1) = e := ⟨_, rfl⟩
                        obtain ⟨gy, hgy⟩ : ∃ gy, hs2[(x + 1)]'(by omega) = gy := ⟨_, rfl⟩
                        have hmem : gy ∈ hs2 := hgy ▸ List.getElem_mem _
                        rw [he] at hj1 hle1
                        have hset := HT2.out.set (rows' := rowP s (2 * n) x k 2) (x + 1) (k + 1) (by omega) ((e + c : Nat) : Int) (by have := rowP_up s (2 * n) x k; rw [hif, he, HC.out] at this; exact this) (fun i _ hne => rowP_up_off s (2 * n) x k i (by omega))
                        have hgyb := HT2.out.blk (x + 1) (by omega)
                        rw [hgy] at hj1 hj2 hy1 hset hgyb
                        have HS := Aside0.mk hset.drew
                        have HTn2 := Aside0.mk ((HTn.out.off (p := ⟨gy, k + 1, none⟩) hgyb (by decide) (HD.out gy hmem) (.int .i64 ((e + c : Nat) : Int))).drew)
                        have HBn2 := Aside0.mk (below_drew (HBn.out.setCell (p := ⟨gy, k + 1, none⟩) (HL2.out gy hmem) (.int .i64 ((e + c : Nat) : Int))))
                        unfold rowV at hy1
                        have hwec : IntKind.i64.wrap ((e : Int) + (c : Int)) = ((e + c : Nat) : Int) := by rw [i64_w]; unfold wrap64; omega
                        clear hset hgyb hmem hgy he hif HT2 HTn HBn hcs2 hle1
                        go_wp2
                        go_region
                        go_wp2
                        go_roundg 0
                        case measure => omega
                        case rel => exact ⟨2, congrArg (Value.int .i64) (by omega), by omega, fun h => absurd h hc0, HTn2, HS, HBn2⟩
            · obtain rfl : gk = 0 := by omega
              obtain rfl : k = 2 * n + 1 := by omega
              have hkd : decide (2 * (n : Int) + 1 ≤ 2 * (n : Int)) = false := decide_eq_false (by omega)
              have HS := Aside0.mk (HT2.out.congr (rows' := rowP s (2 * n) (x + 1) 0 0) (fun i _ => rowP_row s (2 * n) x i hsn))
              go_wp2
              go_roundg p
              case measure => omega
              case rel => exact ⟨x + 1, by rw [Int.natCast_succ], by omega, HTn, HS, HBn⟩
        · obtain rfl : gk = 0 := by omega
          obtain rfl : x = 4 * n + 1 := by omega
          have hxd : decide (4 * (n : Int) + 1 ≤ 4 * (n : Int)) = false := decide_eq_false (by omega)
          have HS := Aside0.mk (HT2.out.congr (rows' := rowA (s + 1) (2 * n)) (fun i hi => by
            have := rowP_end s (2 * n) i hsn (by omega)
            rw [show 2 * (2 * n) + 1 = 4 * n + 1 by omega] at this
            exact this.symm))
          go_wp2
          go_roundg q
          case measure => omega
          case rel => exact ⟨s + 1, hs2, by rw [Int.natCast_succ], by omega, hl2, ⟨⟨HS.out.tab.imp fun _ h => h.imp fun _ h => h.imp fun _ h => h.imp fun _ h => ⟨h.1, Nat.le_trans HLo.out h.2.1, h.2.2⟩, HS.out.blk, HL2.out, HS.out.nd⟩⟩, HBn⟩
    · obtain rfl : gk = 0 := by omega
      obtain rfl : s = 2 * n := by omega
      have hle : decide (2 * (n : Int) < 2 * (n : Int)) = false := decide_eq_false (by omega)
      have info3 : (Tryd.prog.info? 3).map (fun i => (i.zero, i.size, i.bytes)) = some (some (.int .i64 0), 1, 8) := by kernel_rfl
      have hmk : ∀ W : World, (Instr.makeSlice 22 (.int .i64 ((n : Int) + 1)) (.int .i64 ((n : Int) + 1))).run Tryd.prog W = .ok (.slice (some ⟨W.heap.size, 0, none⟩) (n + 1) (n + 1)) (W.alloc (.cells (madeCells #[.int .i64 0] (n + 1)) 3)) := by
        have := print_make (P := Tryd.prog) 22 3 .i64 8 Tryd.underlying22 info3 (by decide) (n + 1) (by omega)
        rw [Int.natCast_succ] at this
        exact this
      go_wp2
      obtain ⟨G, hG⟩ : ∃ G, wr.heap.size = G := ⟨_, rfl⟩
      have HTs := Aside0.mk (HT.out.below (below_alloc (Below.refl wr.heap.size wr) (.cells (madeCells #[.int .i64 0] (n + 1)) 3)))
      have HBs := Aside0.mk (below_alloc HB.out (.cells (madeCells #[.int .i64 0] (n + 1)) 3))
      have HGo : Aside0 (w.heap.size ≤ G ∧ G ∉ hs) := ⟨hG ▸ HB.out.size, fun h => by obtain ⟨i, hi, e⟩ := List.getElem_of_mem h; have := blk_lt (HT.out.blk i hi); omega⟩
      have HO : Aside0 ((wr.alloc (.cells (madeCells #[.int .i64 0] (n + 1)) 3)).heap[G]? = some (.cells (nums .i64 (rowO n 0 0)).toArray 3 (0, 0))) := ⟨by
        rw [← hG, heap_alloc_new, rowO_start]
        have hmk2 : (madeCells #[Value.int .i64 0] (n + 1)).toList = nums .i64 (List.replicate (n + 1) 0) := by
          apply List.ext_getElem
          · simp [nums, madeCells]
          · intro i h1 h2
            simp [nums, madeCells, Nat.mod_one]
        rw [← hmk2]⟩
      rw [hG]
      clear HT HB hG hmk
      go_loopg [13] (4 * n + 1) (fun q v13 wi => ∃ x : Nat, v13 = .int .i64 x ∧ x + q = 4 * n + 1 ∧ Aside0 (TRel w.heap.size wi (2 * n) (.slice (some ⟨gt, 0, none⟩) (4 * n + 1) ct) hs (rowA (2 * n) (2 * n))) ∧ Aside0 (wi.heap[G]? = some (.cells (nums .i64 (rowO n x 0)).toArray 3 (0, 0))) ∧ Aside0 (Below w.heap.size w wi))
      case atStart => exact ⟨0, rfl, by omega, HTs, HO, HBs⟩
      case round =>
        clear HTs HO HBs
        obtain ⟨x, rfl, hxq, HTs, HO, HBs⟩ := hrel
        by_cases hx : x ≤ 4 * n
        · obtain ⟨p, rfl⟩ : ∃ p, gk = p + 1 := ⟨gk - 1, by omega⟩
          have hxd : decide ((x : Int) ≤ 4 * (n : Int)) = true := decide_eq_true (by omega)
          go_wp2
          go_loopg [14] (n + 1) (fun q v14 wi => ∃ k : Nat, v14 = .int .i64 k ∧ k + q = n + 1 ∧ Aside0 (TRel w.heap.size wi (2 * n) (.slice (some ⟨gt, 0, none⟩) (4 * n + 1) ct) hs (rowA (2 * n) (2 * n))) ∧ Aside0 (wi.heap[G]? = some (.cells (nums .i64 (rowO n x k)).toArray 3 (0, 0))) ∧ Aside0 (Below w.heap.size w wi))
          case atStart => exact ⟨0, rfl, by omega, HTs, HO, HBs⟩
          case round =>
            clear HTs HO HBs
            obtain ⟨k, rfl, hkq, HTs, HO, HBs⟩ := hrel
            by_cases hk : k ≤ n
            · obtain ⟨r, rfl⟩ : ∃ r, gk = r + 1 := ⟨gk - 1, by omega⟩
              have hkd : decide ((k : Int) ≤ (n : Int)) = true := decide_eq_true (by omega)
              obtain ⟨gg, cc, hv, hcs⟩ := HTs.out.cells
              obtain ⟨rfl, rfl⟩ : gt = gg ∧ ct = cc := by simp at hv; exact ⟨hv.1, hv.2.2⟩
              have hx1 := hcs x (by omega)
              have hk1 := (HTs.out.row x (2 * k) (by omega) (by unfold rowA; rw [tabF_length]; omega)).1
              have hrd : rd (rowA (2 * n) (2 * n) x) ((2 * k : Nat) : Int) = (aF (2 * n) (2 * n) x (2 * k) : Int) := by unfold rowA; rw [rd_tabF _ _ _ (by omega)]
              rw [hrd] at hk1
              obtain ⟨c, hc⟩ : ∃ c, aF (2 * n) (2 * n) x (2 * k) = c := ⟨_, rfl⟩
              obtain ⟨gx, hgx⟩ : ∃ gx, hs[x]'(by omega) = gx := ⟨_, rfl⟩
              rw [hc] at hk1
              rw [hgx] at hx1 hk1
              unfold rowV at hx1
              have hsucc := sumO_succ n x k
              have hbd : sumO n (x + 1) k ≤ 4611686018427387904 := Nat.le_trans (usum_mono _ (by omega)) (hb.out k hk)
              have hget : (nums .i64 (rowO n x k)).toArray[k]? = some (.int .i64 (sumO n x k : Int)) := by
                simp [nums, rowO, tabF, show k < n + 1 by omega]
              obtain ⟨e, he⟩ : ∃ e, sumO n x k = e := ⟨_, rfl⟩
              rw [hc, he] at hsucc
              rw [hsucc] at hbd
              rw [he] at hget
              have ho1 := (blk_cell HO.out k).trans hget
              have ho2 := blk_frozen HO.out k
              have HO2 : Aside0 ((wr.setCell ⟨G, k, none⟩ (.int .i64 ((e + c : Nat) : Int))).drew.heap[G]? = some (.cells (nums .i64 (rowO n x (k + 1))).toArray 3 (0, 0))) := ⟨by
                refine (blk_set HO.out k (.int .i64 ((e + c : Nat) : Int))).trans ?_
                rw [rowO_set, hsucc]
                simp [nums, List.map_set]⟩
              have HTs2 := Aside0.mk ((HTs.out.off (p := ⟨G, k, none⟩) HO.out (by decide) HGo.out.2 (.int .i64 ((e + c : Nat) : Int))).drew)
              have HBs2 := Aside0.mk (below_drew (HBs.out.setCell (p := ⟨G, k, none⟩) HGo.out.1 (.int .i64 ((e + c : Nat) : Int))))
              have hwec : IntKind.i64.wrap ((e : Int) + (c : Int)) = ((e + c : Nat) : Int) := by rw [i64_w]; unfold wrap64; omega
              clear hget hsucc he hc hgx hrd hv hcs HTs HO HBs
              go_wp2
              go_region
              go_wp2
              go_roundg r
              case measure => omega
              case rel => exact ⟨k + 1, by rw [Int.natCast_succ], by omega, HTs2, HO2, HBs2⟩
            · obtain rfl : gk = 0 := by omega
              obtain rfl : k = n + 1 := by omega
              have hkd : decide ((n : Int) + 1 ≤ (n : Int)) = false := decide_eq_false (by omega)
              rw [rowO_next] at HO
              go_wp2
              go_roundg p
              case measure => omega
              case rel => exact ⟨x + 1, by rw [Int.natCast_succ], by omega, HTs, HO, HBs⟩
        · obtain rfl : gk = 0 := by omega
          obtain rfl : x = 4 * n + 1 := by omega
          have hxd : decide (4 * (n : Int) + 1 ≤ 4 * (n : Int)) = false := decide_eq_false (by omega)
          go_wp2
          go_ret2
          have hfin : rowO n (4 * n + 1) 0 = tabF (fun k => ((usum (fun x => aF (2 * n) (2 * n) x (2 * k)) (4 * n + 1) : Nat) : Int)) (n + 1) := tabF_congr fun j _ => by rw [if_neg (by omega)]; rfl
          refine ⟨_, rfl, ?_, HBs.out⟩
          rw [← hfin]
          have hown := own_block HO.out HGo.out.1 (by rw [rowO_length]; omega)
          rw [rowO_length] at hown
          exact own_R hown (rowO_length n _ _)
open Go.Proofs.YtnjimbgfafkogaaDoor.Pure
theorem tot_all : (List.range 31).all (fun n => (List.range (n + 1)).all fun k => decide (dig BB (tot (2 * n)) (2 * k) = mids.getD k 0 * mids.getD (n - k) 0)) = true := by decide +kernel
theorem tsum_arcs (n k : Nat) (hn : n ≤ 30) (hk : k ≤ n) : tsum (2 * n) (2 * k) = arcsN n k := by
  have h := tot_all
  rw [List.all_eq_true] at h
  have h1 := h n (List.mem_range.2 (by omega))
  rw [List.all_eq_true] at h1
  have h2 := of_decide_eq_true (h1 k (List.mem_range.2 (by omega)))
  rw [dig_tot (2 * n) (2 * k) (by omega) (by omega)] at h2
  unfold arcsN
  rw [mids_get k (by omega), mids_get (n - k) (by omega)]
  exact h2
/-- The sum over the places of the reference's table. -/
theorem places_sum (n k : Nat) (hn : n ≤ 30) (hk : k ≤ n) : usum (fun x => Math.A (2 * n) ((x : Int) - (2 * n : Nat)) (2 * k)) (4 * n + 1) = arcsN n k := by
  have := usum_tsum (2 * n) (2 * n) (2 * k) (Nat.le_refl _) (by omega)
  rw [show 4 * n + 1 = 2 * (2 * n) + 1 by omega, this, tsum_arcs n k hn hk]
/-! The reference's Sides: its contract. -/
open Go.Proofs.YtnjimbgfafkogaaDoor.Pre Go.Proofs.YtnjimbgfafkogaaDoor.Math Go.Proofs.YtnjimbgfafkogaaDoor.Pure
def pomaderef09_Sides.f (a0 : Int) : Option (List Int × Int) := some (arcsR a0)
theorem sides_err (a0 : Int) (hc : a0 < 0 ∨ a0 > 30) (w : World) : Calls Tryd.prog 31 #[.int .i64 a0] w fun e w' => e = .returned (.tuple #[.slice none 0 0, .int .i64 2]) ∧ Below w.heap.size w w' := by
  have fin : ∀ p1 p2 : Bool, decide (a0 < 0) = p1 → decide (30 < a0) = p2 → (p1 || p2) = true → Calls Tryd.prog 31 #[.int .i64 a0] w fun e w' => e = .returned (.tuple #[.slice none 0 0, .int .i64 2]) ∧ Below w.heap.size w w' := by
    intro p1 p2 h1 h2 hor
    clear hc
    cases p1 <;> cases p2 <;> first | (exact absurd hor (by decide)) | (go_enter Tryd.func31, Tryd.ntmps31; go_wp2; go_ret2; exact ⟨rfl, Below.refl _ _⟩)
  refine fin _ _ rfl rfl ?_
  simp only [Bool.or_eq_true, decide_eq_true_eq]
  omega
theorem pomaderef09_Sides.calls (a0 : Int) (r1 : List Int) (r2 : Int) (w : World) (h : pomaderef09_Sides.f a0 = some (r1, r2)) :
    Calls Tryd.prog 31 #[.int .i64 a0] w fun e w' => ∃ v0_ : Value, e = .returned (.tuple #[v0_, .int .i64 r2]) ∧ Kd.R (Kd.int .i64) 3 w' w.heap.size (fun _ => True) v0_ r1 ∧ Below w.heap.size w w' := by
  unfold pomaderef09_Sides.f at h
  have h := Option.some.inj h
  unfold arcsR at h
  by_cases hc : a0 < 0 ∨ a0 > 30
  · rw [if_pos hc] at h
    simp only [Prod.mk.injEq] at h
    obtain ⟨rfl, rfl⟩ := h
    refine (sides_err a0 hc w).mono ?_
    rintro e w' ⟨rfl, hb⟩
    exact ⟨_, rfl, own_R (World.ownsRow_nil _ _ _ _) rfl, hb⟩
  · rw [if_neg hc] at h
    simp only [Prod.mk.injEq] at h
    obtain ⟨rfl, rfl⟩ := h
    obtain ⟨n, rfl⟩ : ∃ n : Nat, a0 = (n : Int) := ⟨a0.toNat, by omega⟩
    have hn : n ≤ 30 := by omega
    have hp : ∀ k, k ≤ n → usum (fun x => aF (2 * n) (2 * n) x (2 * k)) (4 * n + 1) = arcsN n k := fun k hk => places_sum n k hn hk
    refine (sides_main n hn ⟨fun k hk => by rw [hp k hk]; exact Nat.le_trans (arcs_small n k hn hk) (by decide)⟩ w).mono ?_
    rintro e w' ⟨v, rfl, hR, hb⟩
    refine ⟨v, rfl, ?_, hb⟩
    rw [Int.toNat_natCast]
    have : arcsI n (n + 1) = tabF (fun k => ((usum (fun x => aF (2 * n) (2 * n) x (2 * k)) (4 * n + 1) : Nat) : Int)) (n + 1) := tabF_congr fun k hk => by rw [hp k (by omega)]
    rw [this]
    exact hR

end Go.Proofs.YtnjimbgfafkogaaDoor.Hand
