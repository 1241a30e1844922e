import Derived.Test.YtnjimbgfafkogaaDoorProg
import Derived.Below
import Derived.Deep.Draws
import Derived.Deep.AppendLies
import Derived.Maps.AppendAt
import Derived.OwnWalk
import Derived.Laws.BytesArg
import Derived.Laws.MakeOwn
import Derived.Laws.OwnMore
import Derived.Deep.OwnRows
import Derived.Tactics
import Derived.Lib.ConvBytes
import Derived.Laws.Slices
import Derived.WalkKit
import Derived.KernelRfl
import Derived.RowKit3
import Derived.Deep.LoopGhost
import Derived.Deep.QuietTactic
import Derived.BigQuiet
import Derived.WideLaws
import Derived.Deep.DeepCutAuto
import Derived.Deep.CutBlock
import Derived.Deep.RegionHeld3
import Derived.Laws.Rows
import Derived.Lib.AppendStr
import Derived.ArgAppend
import Derived.Laws.IdiomCopy
import Derived.OrdersHeld
import Derived.Laws.BitsLemmas
import Derived.RowKit
import Derived.Test.YtnjimbgfafkogaaDoorWWords
import Derived.Test.YtnjimbgfafkogaaDoorWLast
import Derived.Test.YtnjimbgfafkogaaDoorWTab
import Derived.Test.YtnjimbgfafkogaaDoorWFour
import Derived.Test.YtnjimbgfafkogaaDoorWQPut
import Derived.Test.YtnjimbgfafkogaaDoorWApart
import Derived.Test.YtnjimbgfafkogaaDoorWArr
import Derived.Test.YtnjimbgfafkogaaDoorWZeros
import Derived.Test.YtnjimbgfafkogaaDoorWFoot
import Derived.Test.YtnjimbgfafkogaaDoorWKept
import Derived.Test.YtnjimbgfafkogaaDoorWShare
import Derived.Test.YtnjimbgfafkogaaDoorWN
import Derived.Test.YtnjimbgfafkogaaDoorWFootNe
import Derived.Test.YtnjimbgfafkogaaDoorWAt
import Derived.Test.YtnjimbgfafkogaaDoorWEqStruct
import Derived.Test.YtnjimbgfafkogaaDoorWRepsOne
import Derived.Test.YtnjimbgfafkogaaDoorWInv
import Derived.Test.YtnjimbgfafkogaaDoorWInvWords
import Derived.Test.YtnjimbgfafkogaaDoorWGuard
import Derived.Test.YtnjimbgfafkogaaDoorWNEv
import Derived.Test.YtnjimbgfafkogaaDoorWMore
import Derived.Test.YtnjimbgfafkogaaDoorEvF
import Derived.Test.YtnjimbgfafkogaaDoorHandF
import Derived.Test.YtnjimbgfafkogaaDoorBase1
namespace Go.Proofs.YtnjimbgfafkogaaDoor.Hand
open Go.RowKit Go.Proofs.YtnjimbgfafkogaaDoorW.PrintWords Go.Proofs.YtnjimbgfafkogaaDoorW.PrintLast Go.Proofs.YtnjimbgfafkogaaDoorW.PrintMore
set_option linter.unusedVariables false
set_option linter.unusedSimpArgs false

/-! TillCatalan, walked by hand: all walks of 2 n steps, n up to 5. -/
open Go.Proofs.YtnjimbgfafkogaaDoor.Pre Go.Proofs.YtnjimbgfafkogaaDoor.Base Go.Proofs.YtnjimbgfafkogaaDoor.Print Go.Proofs.YtnjimbgfafkogaaDoor.Pure Go.Proofs.YtnjimbgfafkogaaDoor.Math

/-- The i-th step of the walk of number x. -/
def bitOf (x i : Nat) : Bool := decide (x / 2 ^ i % 2 = 1)
/-- The first i steps. -/
def bitsOf (x : Nat) : Nat → List Bool
  | 0 => []
  | i + 1 => bitsOf x i ++ [bitOf x i]
theorem bitsOf_length (x i : Nat) : (bitsOf x i).length = i := by
  induction i with
  | zero => rfl
  | succ i ih => simp [bitsOf, ih]
/-- The numbers behind the first x walks. -/
def cl (n : Nat) : Nat → List Int
  | 0 => List.replicate (n + 1) 0
  | x + 1 => if fin 0 (bitsOf x (2 * n)) = 0 then (cl n x).set (abv 0 (bitsOf x (2 * n)) / 2) (rd (cl n x) ((abv 0 (bitsOf x (2 * n)) / 2 : Nat) : Int) + 1) else cl n x
theorem cl_length (n x : Nat) : (cl n x).length = n + 1 := by
  induction x with
  | zero => simp [cl]
  | succ x ih =>
    rw [cl]
    split
    · rw [List.length_set, ih]
    · exact ih
def catOf (n : Nat) : Int := ([1, 1, 2, 5, 14, 42] : List Int).getD n 0
theorem cl_end : ∀ n, n ≤ 5 → 1 ≤ n → cl n (4 ^ n) = List.replicate (n + 1) (catOf n) := by decide +kernel
theorem cl_fine : ∀ n, n ≤ 5 → 1 ≤ n → ∀ x, x < 4 ^ n → fin 0 (bitsOf x (2 * n)) = 0 → abv 0 (bitsOf x (2 * n)) ≤ 2 * n ∧ abv 0 (bitsOf x (2 * n)) % 2 = 0 := by decide +kernel
theorem cl_small (n x : Nat) : ∀ j : Int, 0 ≤ rd (cl n x) j ∧ rd (cl n x) j ≤ x := by
  induction x with
  | zero =>
    intro j
    rw [cl]; unfold rd
    rw [List.getD_eq_getElem?_getD, List.getElem?_replicate]
    split <;> simp
  | succ x ih =>
    intro j
    rw [cl]
    have h := ih j
    split
    · have h1 := ih ((abv 0 (bitsOf x (2 * n)) / 2 : Nat) : Int)
      have key : rd ((cl n x).set (abv 0 (bitsOf x (2 * n)) / 2) (rd (cl n x) ((abv 0 (bitsOf x (2 * n)) / 2 : Nat) : Int) + 1)) j = rd (cl n x) j ∨ rd ((cl n x).set (abv 0 (bitsOf x (2 * n)) / 2) (rd (cl n x) ((abv 0 (bitsOf x (2 * n)) / 2 : Nat) : Int) + 1)) j = rd (cl n x) ((abv 0 (bitsOf x (2 * n)) / 2 : Nat) : Int) + 1 := by
        conv => lhs; lhs; unfold rd
        conv => rhs; lhs; unfold rd
        rw [List.getD_eq_getElem?_getD, List.getElem?_set]
        split
        · split
          · exact .inr rfl
          · left; unfold rd; rw [List.getD_eq_getElem?_getD, List.getElem?_eq_none (by omega)]
        · left; unfold rd; rw [List.getD_eq_getElem?_getD]
      omega
    · omega
theorem ofS_snoc (P : List Bool) (b : Bool) : ofS (P ++ [b]) = ofS P ++ (⟨#[sb b]⟩ : ByteArray) := by
  unfold ofS
  apply ByteArray.ext
  rw [ByteArray.data_append]
  simp
theorem cat_cell : ∀ n, n ≤ 5 → (#[Value.int .i64 1, .int .i64 1, .int .i64 2, .int .i64 5, .int .i64 14, .int .i64 42] : Array Value)[n]? = some (.int .i64 (catOf n))
  | 0, _ => rfl | 1, _ => rfl | 2, _ => rfl | 3, _ => rfl | 4, _ => rfl | 5, _ => rfl
  | n + 6, h => by omega
theorem wF1 {F : Int} (h1 : -20 ≤ F) (h2 : F ≤ 20) : wrap64 (F + 1) = F + 1 := by unfold wrap64; omega
theorem wF2 {F : Int} (h1 : -20 ≤ F) (h2 : F ≤ 20) : wrap64 (F + wrap64 (wrap64 0 - 1)) = F - 1 := by unfold wrap64; omega
theorem wF3 {F : Int} (h1 : 0 ≤ F) (h2 : F ≤ 2000) : wrap64 (F + 1) = F + 1 := by unfold wrap64; omega
theorem aboveR_ofS {P : List Bool} (h : P.length ≤ 60) : aboveR (ofS P) = if fin 0 P = 0 then ((abv 0 P : Int), 0) else (0, 2) := by
  unfold aboveR balE
  rw [if_pos (walk_ofS h), steps_ofS]
  by_cases c : fin 0 P = 0
  · rw [if_pos c, if_pos rfl, if_pos c]
  · rw [if_neg c, if_neg (by decide), if_neg c]
set_option maxHeartbeats 4000000 in
set_option maxRecDepth 100000 in
theorem catalan_main (n : Nat) (a0 : Int) (hn : 1 + a0 % 5 = (n : Int)) (w : World) (h1 : 1 ≤ n) (h5 : n ≤ 5) (h0 : 0 ≤ a0) (h2 : a0 < 256) :
    Calls Tryd.prog 11 #[.int .u8 a0] w fun e w' => e = .returned (.bool true) ∧ Below w.heap.size w w' := by
  have info3 : (Tryd.prog.info? 3).map (fun i => (i.zero, i.size, i.bytes)) = some (some (.int .i64 0), 1, 8) := by kernel_rfl
  have hmk : ∀ W : World, (Instr.makeSlice 22 (.int .i64 ((n : Int) + 1)) (.int .i64 ((n : Int) + 1))).run Tryd.prog W = .ok (.slice (some ⟨W.heap.size, 0, none⟩) (n + 1) (n + 1)) (W.alloc (.cells (madeCells #[.int .i64 0] (n + 1)) 3)) := by
    have := print_make (P := Tryd.prog) 22 3 .i64 8 Tryd.underlying22 info3 (by decide) (n + 1) (by omega)
    rw [Int.natCast_succ] at this
    exact this
  have wn : wrap64 ((n : Int) + 1) = (n : Int) + 1 := by unfold wrap64; omega
  have w2n : wrap64 (2 * (n : Int)) = 2 * (n : Int) := by unfold wrap64; omega
  go_enter Tryd.func11, Tryd.ntmps11
  go_wp2
  obtain ⟨N, hN⟩ : ∃ N, 4 ^ n = N := ⟨_, rfl⟩
  have hNw : wrap64 (2 ^ (2 * n)) = (N : Int) ∧ N ≤ 1024 := by
    subst hN
    have : n = 1 ∨ n = 2 ∨ n = 3 ∨ n = 4 ∨ n = 5 := by omega
    rcases this with rfl | rfl | rfl | rfl | rfl <;> exact ⟨by kernel_rfl, by decide⟩
  obtain ⟨hNw, hN5⟩ := hNw
  have HN := Aside0.mk hN
  clear hN
  go_loopg [5] N (fun q v5 wr => ∃ (x : Nat), v5 = .int .i64 x ∧ x + q = N ∧ Aside0 (wr.heap[w.heap.size]? = some (.cells (nums .i64 (cl n x)).toArray 3 (0, 0))) ∧ Aside0 (Below w.heap.size w wr))
  case atStart =>
    refine ⟨0, rfl, by omega, ⟨?_⟩, ⟨below_alloc (Below.refl _ _) _⟩⟩
    rw [heap_alloc_new, cl]
    congr 2
    have hmk2 : (madeCells #[Value.int .i64 0] (n + 1)).toList = nums .i64 (List.replicate (n + 1) 0) := by
      apply List.ext_getElem
      · simp [nums, madeCells]
      · intro i h1 h2
        simp [nums, madeCells, Nat.mod_one]
    rw [← hmk2]
  case round => 
    obtain ⟨x, rfl, hxq, HC, HB⟩ := hrel
    by_cases hx : x < N
    · obtain ⟨q, rfl⟩ : ∃ q, gk = q + 1 := ⟨gk - 1, by omega⟩
      have hxd : decide ((x : Int) < (N : Int)) = true := decide_eq_true (by omega)
      go_wp2
      go_loopg [6, 7, 8] (2 * n) (fun q v6 v7 v8 wi => ∃ (i : Nat), v8 = .int .i64 i ∧ i + q = 2 * n ∧ v6 = .string (ofS (bitsOf x i)) ∧ v7 = .int .i64 (fin 0 (bitsOf x i)) ∧ Aside0 (∃ nd, wi = wr.drewN nd))
      case atStart => exact ⟨0, rfl, by omega, rfl, rfl, ⟨0, rfl⟩⟩
      case round =>
        obtain ⟨i, rfl, hiq, rfl, rfl, HD⟩ := hrel
        by_cases hi : i < 2 * n
        · obtain ⟨p, rfl⟩ : ∃ p, gk = p + 1 := ⟨gk - 1, by omega⟩
          have hid : decide ((i : Int) < 2 * (n : Int)) = true := decide_eq_true (by omega)
          have hfr := fin_range (bitsOf x i) 0
          rw [bitsOf_length] at hfr
          have hwi : ∀ n, IntKind.i64.wrap n = wrap64 n := i64_w
          have hmod : ((x : Int) / 2 ^ i).tmod 2 = ((x / 2 ^ i % 2 : Nat) : Int) := by
            have : ((x : Int) / 2 ^ i) = ((x / 2 ^ i : Nat) : Int) := by rw [Int.natCast_ediv, Int.natCast_pow]; rfl
            rw [this]; rfl
          obtain ⟨F, hF⟩ : ∃ F, fin 0 (bitsOf x i) = F := ⟨_, rfl⟩
          rw [hF] at hfr ⊢
          by_cases hb : x / 2 ^ i % 2 = 1
          · have hbo : bitOf x i = true := decide_eq_true hb
            rw [hb] at hmod
            have hw2 : wrap64 2 = 2 := by unfold wrap64; omega
            have hw1 : wrap64 1 = 1 := by unfold wrap64; omega
            have hadd : ∀ W, (Op.stringOp .add (ofS (bitsOf x i)) ((⟨#[45, 43]⟩ : ByteArray).extract 1 2)).run Tryd.prog W = .ok (.string (ofS (bitsOf x (i + 1)))) W := fun W => by
              have hex : (⟨#[45, 43]⟩ : ByteArray).extract 1 2 = ⟨#[sb true]⟩ := by decide
              have hsz : (ofS (bitsOf x i)).size + (⟨#[sb true]⟩ : ByteArray).size ≤ 9223372036854775807 := by
                rw [ofS_size, bitsOf_length]; show i + 1 ≤ 9223372036854775807; omega
              rw [hex, run_string_add_sum W (ofS (bitsOf x i)) ⟨#[sb true]⟩ hsz, bitsOf, hbo, ofS_snoc]
            go_wp2
            go_region
            go_wp2
            go_roundg p
            case measure => omega
            case rel =>
              refine ⟨i + 1, congrArg (Value.int .i64) (by unfold wrap64; omega), by omega, rfl, congrArg (Value.int .i64) ?_, ?_⟩
              · rw [bitsOf, hbo, fin_append, hF]
                have g1 : -20 ≤ F := by omega
                have g2 : F ≤ 20 := by omega
                first | (rw [wF1 g1 g2]; rfl) | (rw [wF2 g1 g2]; show F - 1 = F + -1; omega)
              · obtain ⟨nd, rfl⟩ := HD.out
                exact ⟨nd + 1, rfl⟩
          · have hb : x / 2 ^ i % 2 = 0 := by omega
            have hbo : bitOf x i = false := decide_eq_false (by omega)
            rw [hb] at hmod
            have hw2 : wrap64 2 = 2 := by unfold wrap64; omega
            have hw1 : wrap64 1 = 1 := by unfold wrap64; omega
            have hadd : ∀ W, (Op.stringOp .add (ofS (bitsOf x i)) ((⟨#[45, 43]⟩ : ByteArray).extract 0 1)).run Tryd.prog W = .ok (.string (ofS (bitsOf x (i + 1)))) W := fun W => by
              have hex : (⟨#[45, 43]⟩ : ByteArray).extract 0 1 = ⟨#[sb false]⟩ := by decide
              have hsz : (ofS (bitsOf x i)).size + (⟨#[sb false]⟩ : ByteArray).size ≤ 9223372036854775807 := by
                rw [ofS_size, bitsOf_length]; show i + 1 ≤ 9223372036854775807; omega
              rw [hex, run_string_add_sum W (ofS (bitsOf x i)) ⟨#[sb false]⟩ hsz, bitsOf, hbo, ofS_snoc]
            go_wp2
            go_region
            go_wp2
            go_roundg p
            case measure => omega
            case rel =>
              refine ⟨i + 1, congrArg (Value.int .i64) (by unfold wrap64; omega), by omega, rfl, congrArg (Value.int .i64) ?_, ?_⟩
              · rw [bitsOf, hbo, fin_append, hF]
                have g1 : -20 ≤ F := by omega
                have g2 : F ≤ 20 := by omega
                first | (rw [wF1 g1 g2]; rfl) | (rw [wF2 g1 g2]; show F - 1 = F + -1; omega)
              · obtain ⟨nd, rfl⟩ := HD.out
                exact ⟨nd + 1, rfl⟩
        · obtain rfl : gk = 0 := by omega
          obtain rfl : i = 2 * n := by omega
          have hid : decide (((2 * n : Nat) : Int) < 2 * (n : Int)) = false := decide_eq_false (by omega)
          obtain ⟨k, hk⟩ := ev_tAbove (ofS (bitsOf x (2 * n)))
          have HA := Aside0.mk (hk k (Nat.le_refl _))
          clear hk
          have haR := aboveR_ofS (P := bitsOf x (2 * n)) (by rw [bitsOf_length]; omega)
          obtain ⟨nd, rfl⟩ := HD.out
          by_cases hf : fin 0 (bitsOf x (2 * n)) = 0
          · rw [if_pos hf] at haR
            rw [hf]
            obtain ⟨hc1, hc2⟩ := cl_fine n h5 h1 x (by rw [HN.out]; exact hx) hf
            rw [haR] at HA
            have HF := Aside0.mk hf
            clear haR hf HD
            obtain ⟨a, ha⟩ : ∃ a, abv 0 (bitsOf x (2 * n)) = a := ⟨_, rfl⟩
            rw [ha] at hc1 hc2 HA
            have HAa := Aside0.mk ha
            clear ha
            have HC0 := Aside0.mk (blk_drewN HC.out nd)
            have hcs := cl_small n x ((a / 2 : Nat) : Int)
            obtain ⟨c, hc⟩ : ∃ c, rd (cl n x) ((a / 2 : Nat) : Int) = c := ⟨_, rfl⟩
            rw [hc] at hcs
            have hget : (nums .i64 (cl n x)).toArray[a / 2]? = some (.int .i64 c) := by
              have hlt : a / 2 < (cl n x).length := by rw [cl_length]; omega
              rw [← hc]; unfold rd
              rw [Int.toNat_natCast, List.getD_eq_getElem?_getD, List.getElem?_eq_getElem hlt]
              simp [nums, hlt]
            have hpar : ((a : Int) % 2 != 0) = false := bne_eq_false_iff_eq.2 (by omega)
            have HG := Aside0.mk hget
            have HCc := Aside0.mk hc
            have hwc := wF3 hcs.1 (by omega)
            clear hget hc
            go_wp2_with (go_at_call 34; refine (till_Above.calls k _ _ _ _ HA.out).mono ?_; rintro e w1 ⟨rfl, hb1⟩; have hcell : w1.cell? ⟨w.heap.size, a / 2, none⟩ = some (.int .i64 c) := ((blk_cell (blk_below HC0.out hb1) _).trans HG.out); have hfro := blk_frozen (blk_below HC0.out hb1) (a / 2); have HB1 := Aside0.mk hb1; clear hb1)
            go_roundg q
            case measure => omega
            case rel =>
              refine ⟨x + 1, by rw [Int.natCast_succ], by omega, ⟨?_⟩, ⟨((pw_below_drewN HB.out nd).trans (HB1.out.mono HB.out.size)).setCell (Nat.le_refl _) _⟩⟩
              rw [blk_set (blk_below HC0.out HB1.out), cl, if_pos HF.out, HAa.out, HCc.out]
              simp [nums, List.map_set]
          · rw [if_neg hf] at haR
            rw [haR] at HA
            have HF := Aside0.mk hf
            obtain ⟨F, hF⟩ : ∃ F, fin 0 (bitsOf x (2 * n)) = F := ⟨_, rfl⟩
            rw [hF] at hf ⊢
            have hFb : (F == 0) = false := beq_eq_false_iff_ne.2 hf
            have HFe := Aside0.mk hF
            clear haR hf HD hF
            go_wp2_with (go_at_call 34; refine (till_Above.calls k _ _ _ _ HA.out).mono ?_; rintro e w1 ⟨rfl, hb1⟩; have HB1 := Aside0.mk hb1; clear hb1)
            go_roundg q
            case measure => omega
            case rel =>
              refine ⟨x + 1, by rw [Int.natCast_succ], by omega, ⟨?_⟩, ⟨(pw_below_drewN HB.out nd).trans (HB1.out.mono HB.out.size)⟩⟩
              rw [cl, if_neg HF.out]
              exact blk_below (blk_drewN HC.out nd) HB1.out
    · obtain rfl : gk = 0 := by omega
      obtain rfl : x = N := by omega
      have hxd : decide ((x : Int) < (x : Int)) = false := decide_eq_false (by omega)
      have hend := cl_end n h5 h1
      rw [HN.out] at hend
      rw [hend] at HC
      obtain ⟨c, hc⟩ : ∃ c, catOf n = c := ⟨_, rfl⟩
      rw [hc] at HC
      have HCat := Aside0.mk hc
      clear hend hc
      go_wp2
      go_loopg [11] (n + 1) (fun q v11 wi => ∃ j : Nat, v11 = .int .i64 j ∧ j + q = n + 1 ∧ Aside0 (wi.heap[w.heap.size]? = some (.cells (nums .i64 (List.replicate (n + 1) c)).toArray 3 (0, 0))) ∧ Aside0 (Below w.heap.size w wi))
      case atStart => exact ⟨0, rfl, by omega, HC, HB⟩
      case round =>
        clear HC HB
        obtain ⟨j, rfl, hjq, HC, HB⟩ := hrel
        by_cases hj : j ≤ n
        · obtain ⟨p, rfl⟩ : ∃ p, gk = p + 1 := ⟨gk - 1, by omega⟩
          have hjd : decide ((j : Int) ≤ (n : Int)) = true := decide_eq_true (by omega)
          have hwj : wrap64 ((j : Int) + 1) = (j : Int) + 1 := wF3 (by omega) (by omega)
          have hcl : wr.cell? ⟨w.heap.size, j, none⟩ = some (.int .i64 c) := by
            rw [blk_cell HC.out]
            simp [nums, hj, show j < n + 1 by omega]
          have htab : (wr.alloc (Obj.cells #[Value.int .i64 1, .int .i64 1, .int .i64 2, .int .i64 5, .int .i64 14, .int .i64 42] 3)).drew.cell? ⟨wr.heap.size, n, none⟩ = some (.int .i64 c) := by
            have := cat_cell n h5
            rw [HCat.out] at this
            exact (blk_cell (blk_new wr _) n).trans this
          have hcl2 : (wr.alloc (Obj.cells #[Value.int .i64 1, .int .i64 1, .int .i64 2, .int .i64 5, .int .i64 14, .int .i64 42] 3)).drew.cell? ⟨w.heap.size, j, none⟩ = some (.int .i64 c) := by
            refine Eq.trans ?_ hcl
            exact (blk_cell (blk_alloc HC.out _) j).trans (blk_cell HC.out j).symm
          have hcc : (c != c) = false := bne_self_eq_false c
          have hn6 : n < 6 := by omega
          go_wp2
          go_region
          go_wp2
          go_roundg p
          case measure => omega
          case rel => exact ⟨j + 1, by rw [Int.natCast_succ], by omega, ⟨blk_alloc HC.out _⟩, ⟨below_drew (below_alloc HB.out _)⟩⟩
        · obtain rfl : gk = 0 := by omega
          obtain rfl : j = n + 1 := by omega
          have hjd : decide (((n : Int) + 1) ≤ (n : Int)) = false := decide_eq_false (by omega)
          obtain ⟨k, hk⟩ := alive_true
          have HA := Aside0.mk (hk k (Nat.le_refl _))
          clear hk HC
          go_wp2_with (go_at_call 18; refine (pomadelaw09_alive.calls k true _ HA.out).mono ?_; rintro e w1 ⟨rfl, hb1⟩)
          go_ret
          exact ⟨rfl, HB.out.trans (hb1.mono HB.out.size)⟩

theorem catalan_walk (a0 : Int) (w : World) (w0 : (Lit.int .u8 a0).wf = true) :
    Calls Tryd.prog 11 #[.int .u8 a0] w fun e w' => e = .returned (.bool true) ∧ Below w.heap.size w w' := by
  obtain ⟨h0, h2⟩ := wf_u8 w0
  exact catalan_main (1 + a0 % 5).toNat a0 (by omega) w (by omega) (by omega) h0 (by omega)

end Go.Proofs.YtnjimbgfafkogaaDoor.Hand
