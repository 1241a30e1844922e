import Derived.Test.YtndpnlpidphflaaProg
import Derived.Below
import Derived.Deep.Draws
import Derived.Deep.AppendLies
import Derived.Maps.AppendAt
import Derived.OwnWalk
import Derived.Laws.BytesArg
import Derived.Laws.MakeOwn
import Derived.Laws.OwnMore
import Derived.Deep.OwnRows
import Derived.Tactics
import Derived.Lib.ConvBytes
import Derived.Laws.Slices
import Derived.WalkKit
import Derived.KernelRfl
import Derived.RowKit3
import Derived.Deep.LoopGhost
import Derived.Deep.QuietTactic
import Derived.BigQuiet
import Derived.WideLaws
import Derived.Deep.DeepCutAuto
import Derived.Deep.CutBlock
import Derived.Deep.RegionHeld3
import Derived.Laws.Rows
import Derived.Lib.AppendStr
import Derived.ArgAppend
import Derived.Laws.IdiomCopy
import Derived.OrdersHeld
import Derived.Laws.BitsLemmas
import Derived.RowKit
import Derived.Test.YtndpnlpidphflaaWWords
import Derived.Test.YtndpnlpidphflaaWLast
import Derived.Test.YtndpnlpidphflaaWTab
import Derived.Test.YtndpnlpidphflaaWFour
import Derived.Test.YtndpnlpidphflaaWQPut
import Derived.Test.YtndpnlpidphflaaWApart
import Derived.Test.YtndpnlpidphflaaWArr
import Derived.Test.YtndpnlpidphflaaWZeros
import Derived.Test.YtndpnlpidphflaaWFoot
import Derived.Test.YtndpnlpidphflaaWKept
import Derived.Test.YtndpnlpidphflaaWShare
import Derived.Test.YtndpnlpidphflaaWN
import Derived.Test.YtndpnlpidphflaaWFootNe
import Derived.Test.YtndpnlpidphflaaWAt
import Derived.Test.YtndpnlpidphflaaWEqStruct
import Derived.Test.YtndpnlpidphflaaWRepsOne
import Derived.Test.YtndpnlpidphflaaWInv
import Derived.Test.YtndpnlpidphflaaWInvWords
import Derived.Test.YtndpnlpidphflaaWGuard
import Derived.Test.YtndpnlpidphflaaWNEv
import Derived.Test.YtndpnlpidphflaaWMore
import Derived.Test.YtndpnlpidphflaaShelf
namespace Go.Proofs.Ytndpnlpidphflaa.Hand
open Go.RowKit Go.Proofs.YtndpnlpidphflaaW.PrintWords Go.Proofs.YtndpnlpidphflaaW.PrintLast Go.Proofs.YtndpnlpidphflaaW.PrintMore
set_option linter.unusedVariables false
set_option linter.unusedSimpArgs false

/-- The closure's four blocks, one behind the other: the step, the row, the row's variable, the place. -/
structure CSt (w : World) (b : Nat) (at_ k : Int) (n : Nat) (left : List Int) : Prop where
  hk : w.heap[b]? = some (.cells #[.int .i64 k] 3 (0, 0))
  hr : w.heap[b + 1]? = some (.cells ((left ++ List.replicate (n - left.length) 0).map (Value.int .i64)).toArray 3 (0, 0))
  hl : w.heap[b + 2]? = some (.cells #[.slice (some ⟨b + 1, 0, none⟩) left.length n] 37 (0, 0))
  ha : w.heap[b + 3]? = some (.cells #[.int .i64 at_] 3 (0, 0))
  hn : left.length ≤ n

/-- Only those blocks have been written. -/
structure Stays (w w' : World) (b : Nat) : Prop where
  os : w'.os = w.os
  tape : w'.tape = w.tape
  output : w'.output = w.output
  size : w'.heap.size = w.heap.size
  block : ∀ i, i < b ∨ b + 4 ≤ i → w'.heap[i]? = w.heap[i]?

theorem set_row {w : World} {g : Nat} {e : TypeId} {cur : Array Value} (h : w.heap[g]? = some (.cells cur e (0, 0))) (vs : List Value) (hl : vs.length ≤ cur.size) :
    (w.setCells g 0 vs).heap[g]? = some (.cells (vs ++ cur.toList.drop vs.length).toArray e (0, 0)) := by
  obtain ⟨cur', h1, h2, h3⟩ := setCells_row vs 0 w cur h (by omega)
  rw [h1]
  have : cur' = (vs ++ cur.toList.drop vs.length).toArray := by
    apply Array.ext'
    rw [h3]; simp
  rw [this]

theorem step_world {w : World} {b : Nat} {at_ k : Int} {n : Nat} {left : List Int} (h : CSt w b at_ k n left) (x : Nat) (hx : x < left.length) (q : Nat) :
    CSt ((((w.setCell ⟨b + 3, 0, none⟩ (.int .i64 x)).drewN q).setCells (b + 1) 0 (((left.take left.length).take x ++ (left.take left.length).drop (x + 1) ++ List.replicate (x + 1 - x) 0).map (Value.int .i64))).setCell ⟨b + 2, 0, none⟩ (.slice (some ⟨b + 1, 0, none⟩) (left.length - (x + 1 - x)) n)) b x k n (left.eraseIdx x)
    ∧ Stays w ((((w.setCell ⟨b + 3, 0, none⟩ (.int .i64 x)).drewN q).setCells (b + 1) 0 (((left.take left.length).take x ++ (left.take left.length).drop (x + 1) ++ List.replicate (x + 1 - x) 0).map (Value.int .i64))).setCell ⟨b + 2, 0, none⟩ (.slice (some ⟨b + 1, 0, none⟩) (left.length - (x + 1 - x)) n)) b := by
  obtain ⟨hk, hr, hl, ha, hle⟩ := h
  have hlen : (left.eraseIdx x).length = left.length - 1 := List.length_eraseIdx_of_lt hx
  have e1 : x + 1 - x = 1 := by omega
  rw [e1, List.take_length]
  have el : ((left.take x ++ left.drop (x + 1) ++ List.replicate 1 0).map (Value.int .i64)).length = left.length := by
    simp; omega
  have hr1 : ((w.setCell ⟨b + 3, 0, none⟩ (.int .i64 x)).drewN q).heap[b + 1]? = some (.cells ((left ++ List.replicate (n - left.length) 0).map (Value.int .i64)).toArray 3 (0, 0)) :=
    (Below.heap_setCell _ _ _ _ (by show b + 1 ≠ b + 3; omega)).trans hr
  have far : ∀ i, i ≠ b + 1 → i ≠ b + 2 → i ≠ b + 3 → ((((w.setCell ⟨b + 3, 0, none⟩ (.int .i64 x)).drewN q).setCells (b + 1) 0 ((left.take x ++ left.drop (x + 1) ++ List.replicate 1 0).map (Value.int .i64))).setCell ⟨b + 2, 0, none⟩ (.slice (some ⟨b + 1, 0, none⟩) (left.length - 1) n)).heap[i]? = w.heap[i]? := fun i h1 h2 h3 =>
    (Below.heap_setCell _ _ _ _ (by show i ≠ b + 2; omega)).trans ((setCells_far _ _ _ h1).trans (Below.heap_setCell _ _ _ _ (by show i ≠ b + 3; omega)))
  refine ⟨⟨?_, ?_, ?_, ?_, by omega⟩, ?_⟩
  · exact (far b (by omega) (by omega) (by omega)).trans hk
  · refine (Below.heap_setCell _ _ _ _ (by show b + 1 ≠ b + 2; omega)).trans ?_
    rw [set_row hr1 _ (by rw [el]; simp)]
    congr 3
    rw [el, hlen, List.eraseIdx_eq_take_drop_succ]
    have h2 : n - (left.length - 1) = (n - left.length) + 1 := by omega
    rw [h2, List.replicate_succ]
    simp only [List.map_append, List.map_cons, List.map_replicate, List.toList_toArray, List.drop_left', List.length_map, List.append_assoc, List.replicate_succ, List.replicate_zero, List.map_nil, List.nil_append, List.cons_append]
  · rw [hlen]
    exact one_setCell ((setCells_far _ _ (b + 2) (by omega)).trans ((Below.heap_setCell _ _ _ _ (by show b + 2 ≠ b + 3; omega)).trans hl))
  · refine (Below.heap_setCell _ _ _ _ (by show b + 3 ≠ b + 2; omega)).trans ((setCells_far _ _ (b + 3) (by omega)).trans ?_)
    exact one_setCell ha
  · obtain ⟨s1, s2, s3, s4⟩ := setCells_same (b + 1) ((left.take x ++ left.drop (x + 1) ++ List.replicate 1 0).map (Value.int .i64)) 0 ((w.setCell ⟨b + 3, 0, none⟩ (.int .i64 x)).drewN q)
    exact ⟨s1, s2, s3, by
      have : ((((w.setCell ⟨b + 3, 0, none⟩ (.int .i64 x)).drewN q).setCells (b + 1) 0 ((left.take x ++ left.drop (x + 1) ++ List.replicate 1 0).map (Value.int .i64))).setCell ⟨b + 2, 0, none⟩ (.slice (some ⟨b + 1, 0, none⟩) (left.length - 1) n)).heap.size = (((w.setCell ⟨b + 3, 0, none⟩ (.int .i64 x)).drewN q).setCells (b + 1) 0 ((left.take x ++ left.drop (x + 1) ++ List.replicate 1 0).map (Value.int .i64))).heap.size := by simp [World.setCell]
      rw [this, s4]
      simp [World.setCell, World.drewN], fun i hi => far i (by omega) (by omega) (by omega)⟩

theorem after_delete {w : World} {b : Nat} {at_ k : Int} {n : Nat} {left : List Int} (h : CSt w b at_ k n left) (x : Nat) (hx : x < left.length) (w1 : World) (hw : ∃ q, w1 = ((w.setCell ⟨b + 3, 0, none⟩ (.int .i64 x)).drewN q).setCells (b + 1) 0 (((left.take left.length).take x ++ (left.take left.length).drop (x + 1) ++ List.replicate (x + 1 - x) 0).map (Value.int .i64))) :
    (∃ v, w1.cell? ⟨b + 2, 0, none⟩ = some v) ∧ w1.frozen? ⟨b + 2, 0, none⟩ = false ∧ CSt (w1.setCell ⟨b + 2, 0, none⟩ (.slice (some ⟨b + 1, 0, none⟩) (left.length - 1) n)) b x k n (left.eraseIdx x) ∧ Stays w (w1.setCell ⟨b + 2, 0, none⟩ (.slice (some ⟨b + 1, 0, none⟩) (left.length - 1) n)) b := by
  obtain ⟨q, rfl⟩ := hw
  obtain ⟨h1, h2⟩ := step_world h x hx q
  obtain ⟨hk, hr, hl, ha, hle⟩ := h
  have hb : (((w.setCell ⟨b + 3, 0, none⟩ (.int .i64 x)).drewN q).setCells (b + 1) 0 (((left.take left.length).take x ++ (left.take left.length).drop (x + 1) ++ List.replicate (x + 1 - x) 0).map (Value.int .i64))).heap[b + 2]? = some (.cells #[.slice (some ⟨b + 1, 0, none⟩) left.length n] 37 (0, 0)) :=
    (setCells_far _ _ (b + 2) (by omega)).trans ((Below.heap_setCell _ _ _ _ (by show b + 2 ≠ b + 3; omega)).trans hl)
  rw [show left.length - (x + 1 - x) = left.length - 1 by omega] at h1 h2
  exact ⟨⟨_, cell_of_one hb⟩, free_of_one hb, h1, h2⟩

set_option maxHeartbeats 1000000 in
set_option maxRecDepth 100000 in
theorem call_step (b : Nat) (at_ k : Int) (n x : Nat) (left : List Int) (w : World) (h : CSt w b at_ k n left) (hx : x < left.length) (hn : n ≤ 1000000) (h0 : 0 ≤ at_) (h1 : at_ ≤ 1000000) (hk0 : 1 ≤ k) (hk1 : k ≤ 1000000) (hm : (at_ + k - 1) % (left.length : Int) = (x : Int)) :
    Calls Try.prog 56 #[.pointer (some ⟨b + 3, 0, none⟩), .pointer (some ⟨b, 0, none⟩), .pointer (some ⟨b + 2, 0, none⟩)] w fun e w' =>
      e = .returned (.int .i64 (left.getD x 0)) ∧ CSt w' b x k n (left.eraseIdx x) ∧ Stays w w' b := by
  have HS := Aside0.mk h
  obtain ⟨hk, hr, hl, ha, hle⟩ := h
  have cA := cell_of_one ha
  have fA := free_of_one ha
  have cK := cell_of_one hk
  have cL := cell_of_one hl
  have fL := free_of_one hl
  have cR : ∀ j, j < left.length → w.cell? ⟨b + 1, 0 + j, none⟩ = some (.int .i64 (left.getD j 0)) := fun j hj => by
    rw [blk_cell hr, Nat.zero_add]
    simp [List.getElem?_append_left (show j < (left.map (Value.int .i64)).length by simpa using hj), hj]
  have fR : ∀ j, w.frozen? ⟨b + 1, j, none⟩ = false := fun j => blk_frozen hr j
  have cX : w.cell? ⟨b + 1, x, none⟩ = some (.int .i64 (left.getD x 0)) := by have := cR x hx; rwa [Nat.zero_add] at this
  have cR' := Aside0.mk cR
  have fR' := Aside0.mk fR
  clear cR fR hk hr hl ha
  go_enter Try.func56, Try.ntmps56
  go_wp2_with fail
  rw [show ((x : Int) + 1) = ((x + 1 : Nat) : Int) by omega]
  refine (Try.slices_Delete_int_cells (b + 1) 0 left.length n x (x + 1) left _ (Nat.le_refl _) hle (by omega) (by omega) (by omega) (fun j hj => ?_) (fun j hj => ?_)).mono ?_
  · exact (World.cell?_setCell_other (w := w) _ _ _ (by simp)).trans (cR'.out j hj)
  · exact (World.frozen?_setCell _ _ _ _).trans (fR'.out _)
  rintro e w1 ⟨rfl, hw1⟩
  obtain ⟨⟨v1, c1⟩, f1, hc, hs⟩ := after_delete HS.out x hx w1 hw1
  have HC := Aside0.mk hc
  have HT := Aside0.mk hs
  clear hw1 cA fA cK cL fL cX hc hs
  go_wp2
  go_ret
  exact ⟨by simp [hx], HC.out, HT.out⟩

def ids (n : Nat) : List Int := (List.range n).map Int.ofNat
theorem ids_length (n : Nat) : (ids n).length = n := by simp [ids]
theorem ids_succ (n : Nat) : ids (n + 1) = ids n ++ [(n : Int)] := by simp [ids, List.range_succ]

def Fill (w wr : World) (b : Nat) (k : Int) (n i : Nat) : Prop :=
  wr.heap[b]? = some (.cells #[.int .i64 k] 3 (0, 0)) ∧
  wr.heap[b + 1]? = some (.cells ((ids i ++ List.replicate (n - i) 0).map (Value.int .i64)).toArray 3 (0, 0)) ∧
  wr.heap[b + 2]? = some (.cells #[.slice (some ⟨b + 1, 0, none⟩) n n] 37 (0, 0)) ∧ Below b w wr ∧ wr.heap.size = b + 3

theorem fill_step {w wr : World} {b : Nat} {k : Int} {n i : Nat} (h : Fill w wr b k n i) (hi : i < n) : Fill w (wr.setCell ⟨b + 1, i, none⟩ (.int .i64 i)) b k n (i + 1) := by
  obtain ⟨h1, h2, h3, h4, h5⟩ := h
  refine ⟨blk_far h1 (by show b ≠ b + 1; omega) _, ?_, blk_far h3 (by show b + 2 ≠ b + 1; omega) _, h4.setCell (by show b ≤ b + 1; omega) _, by simpa [World.setCell] using h5⟩
  rw [blk_set h2]
  congr 3
  apply Array.ext'
  rw [Array.toList_setIfInBounds, ids_succ]
  have : n - i = (n - (i + 1)) + 1 := by omega
  rw [this, List.replicate_succ]
  simp only [List.map_append, List.map_cons, List.toList_toArray, List.map_nil, List.append_assoc, List.cons_append, List.nil_append]
  rw [List.set_append_right _ _ (by simp [ids_length])]
  simp [ids_length]

theorem made_ints (w : World) (n : Nat) (hn : n ≤ 1000000) :
    (Instr.makeSlice 37 (.int .i64 (n : Int)) (.int .i64 (n : Int))).run Try.prog w = .ok (.slice (some ⟨w.heap.size, 0, none⟩) n n) (w.alloc (.cells ((List.replicate n 0).map (Value.int .i64)).toArray 3)) := by
  have info3 : (Try.prog.info? 3).map (fun i => (i.zero, i.size, i.bytes)) = some (some (.int .i64 0), 1, 8) := by kernel_rfl
  obtain ⟨i0, hi, hz0, hz1, hz2⟩ := info_parts info3
  have := run_make (P := Try.prog) w 37 3 i0 (.int .i64 0) Try.underlying37 hi hz0 .i64 .i64 n n (by omega) (by omega) (by rw [hz2]; omega) (by omega)
  rw [this, hz1]
  congr 2
  · congr 1
    apply Array.ext'
    apply List.ext_getElem
    · simp [madeCells, Value.cells]
    · intro j h1 h2
      simp [madeCells, Value.cells, Nat.mod_one]

theorem alloc_old {w : World} {g : Nat} {o o' : Obj} (h : w.heap[g]? = some o) : (w.alloc o').heap[g]? = some o := by
  have := blk_lt h
  rw [(below_alloc (Below.refl w.heap.size w) o').block g this]; exact h
theorem fill_start (w : World) (k : Int) (n : Nat) : Fill w (((w.alloc (.cells #[.int .i64 k] 3)).alloc (.cells ((List.replicate n 0).map (Value.int .i64)).toArray 3)).alloc (.cells #[.slice (some ⟨w.heap.size + 1, 0, none⟩) n n] 37)) w.heap.size k n 0 := by
  have h1 := heap_alloc_new w (.cells #[.int .i64 k] 3)
  have h2 := heap_alloc_new (w.alloc (.cells #[.int .i64 k] 3)) (.cells ((List.replicate n 0).map (Value.int .i64)).toArray 3)
  have h3 := heap_alloc_new ((w.alloc (.cells #[.int .i64 k] 3)).alloc (.cells ((List.replicate n 0).map (Value.int .i64)).toArray 3)) (.cells #[.slice (some ⟨w.heap.size + 1, 0, none⟩) n n] 37)
  have s1 : (w.alloc (.cells #[.int .i64 k] 3)).heap.size = w.heap.size + 1 := by simp
  have s2 : ((w.alloc (.cells #[.int .i64 k] 3)).alloc (.cells ((List.replicate n 0).map (Value.int .i64)).toArray 3)).heap.size = w.heap.size + 2 := by simp
  rw [s1] at h2
  rw [s2] at h3
  refine ⟨alloc_old (alloc_old h1), ?_, h3, below_alloc (below_alloc (below_alloc (Below.refl _ _) _) _) _, by simp⟩
  rw [Nat.sub_zero]
  exact alloc_old h2
theorem fill_end {w wr : World} {k : Int} {n : Nat} (h : Fill w wr w.heap.size k n n) : CSt (wr.alloc (.cells #[.int .i64 0] 3)) w.heap.size 0 k n (ids n) ∧ Below w.heap.size w (wr.alloc (.cells #[.int .i64 0] 3)) ∧ (wr.alloc (.cells #[.int .i64 0] 3)).heap.size = w.heap.size + 4 := by
  obtain ⟨h1, h2, h3, h4, h5⟩ := h
  refine ⟨⟨alloc_old h1, ?_, ?_, ?_, by simp [ids_length]⟩, below_alloc h4 _, by simp [h5]⟩
  · rw [ids_length]; exact alloc_old h2
  · rw [ids_length]; exact alloc_old h3
  · have := heap_alloc_new wr (.cells #[.int .i64 0] 3)
    rwa [h5] at this

set_option maxHeartbeats 1000000 in
set_option maxRecDepth 100000 in
theorem caller_any (n : Nat) (k : Int) (w : World) (hn : n ≤ 1000000) :
    Calls Try.prog 50 #[.int .i64 n, .int .i64 k] w fun e w' => e = .returned (.func (.func 56) #[] #[.pointer (some ⟨w.heap.size + 3, 0, none⟩), .pointer (some ⟨w.heap.size, 0, none⟩), .pointer (some ⟨w.heap.size + 2, 0, none⟩)]) ∧
      CSt w' w.heap.size 0 k n (ids n) ∧ Below w.heap.size w w' ∧ w'.heap.size = w.heap.size + 4 := by
  have hmk := fun w => made_ints w n hn
  go_enter Try.func50, Try.ntmps50
  go_wp2_with fail
  go_loopw [12] (fun v wr => ∃ j : Nat, j ≤ n ∧ v = .int .i64 j ∧ Aside0 (Fill w wr w.heap.size k n j)) (fun v _ => n - (intOf v).toNat)
  case atStart =>
    exact ⟨0, Nat.zero_le _, rfl, ⟨by simpa using fill_start w k n⟩⟩
  case round =>
    obtain ⟨j, hj, rfl, HF⟩ := hrel
    have hF := HF.out
    obtain ⟨h1, h2, h3, h4, h5⟩ := hF
    by_cases hlt : j < n
    · have cL := cell_of_one h3
      have cX : wr.cell? ⟨w.heap.size + 1, j, none⟩ = some (.int .i64 0) := by
        rw [blk_cell h2]; simp [List.getElem?_append_right, ids_length, List.getElem?_replicate]; omega
      have fX : wr.frozen? ⟨w.heap.size + 1, j, none⟩ = false := blk_frozen h2 j
      have HN := Aside0.mk (fill_step HF.out hlt)
      clear h1 h2 h3 h4 h5 hmk
      go_wp2
      go_roundw
      case rel => exact ⟨j + 1, by omega, by go_num, HN⟩
      case measure => simp [intOf]; omega
    · obtain rfl : j = n := by omega
      clear h1 h2 h3 h4 hmk
      have HE := Aside0.mk (fill_end HF.out)
      clear HF
      go_wp2
      go_ret
      exact ⟨rfl, HE.out⟩

/-- What has been called, the place, who is left: after i calls. -/
def jst (k : Int) (n : Nat) : Nat → List Int × Int × List Int
  | 0 => ([], 0, ids n)
  | i + 1 => ((jst k n i).1 ++ [(jst k n i).2.2.getD (((jst k n i).2.1 + k - 1) % ((jst k n i).2.2.length : Int)).toNat 0], ((jst k n i).2.1 + k - 1) % ((jst k n i).2.2.length : Int), (jst k n i).2.2.eraseIdx (((jst k n i).2.1 + k - 1) % ((jst k n i).2.2.length : Int)).toNat)
theorem jst_out (k : Int) (n i : Nat) : (jst k n i).1.length = i := by
  induction i with
  | zero => rfl
  | succ i ih => simp [jst, ih]
theorem mod_at {a : Int} {n : Nat} (h : 0 < n) : 0 ≤ a % (n : Int) ∧ a % (n : Int) < n ∧ (a % (n : Int)).toNat < n := by
  have h1 := Int.emod_nonneg a (b := (n : Int)) (by omega)
  have h2 := Int.emod_lt_of_pos a (b := (n : Int)) (by omega)
  exact ⟨h1, h2, by omega⟩
theorem jst_left (k : Int) (n i : Nat) (h : i ≤ n) : (jst k n i).2.2.length = n - i := by
  induction i with
  | zero => simp [jst, ids_length]
  | succ i ih =>
    have := ih (by omega)
    simp only [jst]
    rw [List.length_eraseIdx_of_lt (mod_at (by omega)).2.2]
    omega
theorem jst_at (k : Int) (n i : Nat) (h : i ≤ n) : 0 ≤ (jst k n i).2.1 ∧ (jst k n i).2.1 ≤ n := by
  cases i with
  | zero => simp [jst]
  | succ i =>
    have hl := jst_left k n i (by omega)
    have := mod_at (a := (jst k n i).2.1 + k - 1) (n := (jst k n i).2.2.length) (by omega)
    simp only [jst]
    omega

theorem own_stays {w w1 : World} {b : Nat} (h : Stays w w1 b) {base : Nat} (hb : b + 4 ≤ base) {e size n : Nat} {v : Value} {xs : List Value} (ho : w.ownsRow base e size v n xs) : w1.ownsRow base e size v n xs :=
  own_move ho (fun k hk => h.block k (.inr (by have := own_base ho k hk; omega)))
theorem below_stays {w w1 W : World} {b B : Nat} (h : Stays w w1 b) (hb : B ≤ b) (hB : Below B W w) : Below B W w1 :=
  ⟨h.os.trans hB.os, h.tape.trans hB.tape, h.output.trans hB.output, by rw [h.size]; exact hB.size, fun i hi => (h.block i (.inl (by omega))).trans (hB.block i hi)⟩
theorem cst_grown {w w1 : World} {b : Nat} {at_ k : Int} {n : Nat} {left : List Int} (h : CSt w b at_ k n left) {row : Option Nat} (hg : w.grownBy w1 row) (hr : ∀ g, row = some g → b + 4 ≤ g) : CSt w1 b at_ k n left :=
  ⟨blk_grown h.hk hg (fun e => by have := hr _ e.symm; omega), blk_grown h.hr hg (fun e => by have := hr _ e.symm; omega), blk_grown h.hl hg (fun e => by have := hr _ e.symm; omega), blk_grown h.ha hg (fun e => by have := hr _ e.symm; omega), h.hn⟩
theorem cst_alloc {w : World} {b : Nat} {at_ k : Int} {n : Nat} {left : List Int} (h : CSt w b at_ k n left) (o : Obj) : CSt (w.alloc o) b at_ k n left :=
  ⟨alloc_old h.hk, alloc_old h.hr, alloc_old h.hl, alloc_old h.ha, h.hn⟩

def OrdRel (w wr : World) (v : Value) (k : Int) (n i : Nat) : Prop :=
  CSt wr w.heap.size (jst k n i).2.1 k n (jst k n i).2.2 ∧ wr.ownsRow (w.heap.size + 4) 3 1 v i (nums .i64 (jst k n i).1) ∧ Below w.heap.size w wr ∧ w.heap.size + 4 ≤ wr.heap.size

theorem ord_step {w wr w2 w3 : World} {v v' : Value} {k : Int} {n j : Nat} {o : Obj} (h : OrdRel w wr v k n j) (hj : j < n)
    (hc : CSt w2 w.heap.size (jst k n (j + 1)).2.1 k n (jst k n (j + 1)).2.2) (hs : Stays wr w2 w.heap.size)
    (ho : w3.ownsRow (w.heap.size + 4) 3 1 v' (j + 1) (nums .i64 (jst k n (j + 1)).1)) (hg : (w2.alloc o).grownBy w3 v.ownBlock) : OrdRel w w3 v' k n (j + 1) := by
  obtain ⟨h1, h2, h3, h4⟩ := h
  have hb : ∀ g, v.ownBlock = some g → w.heap.size + 4 ≤ g := fun g hg => own_base h2 g hg
  have hz := hs.size
  refine ⟨cst_grown (cst_alloc hc o) hg hb, ho, pw_below_grown (below_alloc (below_stays hs (Nat.le_refl _) h3) o) _ (by simp; omega) hg (fun g hg => by have := hb g hg; omega), ?_⟩
  have := hg.size
  simp at this
  omega

set_option maxHeartbeats 1000000 in
set_option maxRecDepth 100000 in
theorem order_any (n : Nat) (k : Int) (w : World) (hn : n ≤ 1000000) (hk0 : 1 ≤ k) (hk1 : k ≤ 1000000) :
    Calls Try.prog 47 #[.int .i64 n, .int .i64 k] w fun e w' => ∃ v : Value, e = .returned v ∧ OrdRel w w' v k n n := by
  have info3 : (Try.prog.info? 3).map (fun i => (i.zero, i.size, i.bytes)) = some (some (.int .i64 0), 1, 8) := by kernel_rfl
  obtain ⟨i0, hi, hz0, hz1, hz2⟩ := info_parts info3
  go_enter Try.func47, Try.ntmps47
  go_wp2_with (go_at_call 50; refine (caller_any n k w hn).mono ?_; rintro e w1 ⟨rfl, hc, hb, hs⟩; have HC := Aside0.mk (show OrdRel w w1 (.slice none 0 0) k n 0 from ⟨hc, own_nil _ _ _ _, hb, by omega⟩); clear hc hb hs)
  go_loopw [6, 11] (fun v i wr => ∃ j : Nat, j ≤ n ∧ i = .int .i64 j ∧ Aside0 (OrdRel w wr v k n j)) (fun _ i _ => n - (intOf i).toNat)
  case atStart => exact ⟨0, Nat.zero_le _, rfl, HC⟩
  case round =>
    obtain ⟨j, hj, rfl, HF⟩ := hrel
    by_cases hlt : j < n
    · have hR := HF.out
      obtain ⟨h1, h2, h3, h4⟩ := hR
      have hl := jst_left k n j hj
      have ha := jst_at k n j hj
      have hm := mod_at (a := (jst k n j).2.1 + k - 1) (n := (jst k n j).2.2.length) (by omega)
      obtain ⟨x, hx⟩ : ∃ x : Nat, ((jst k n j).2.1 + k - 1) % ((jst k n j).2.2.length : Int) = (x : Int) := ⟨_, (Int.toNat_of_nonneg hm.1).symm⟩
      have hxl : x < (jst k n j).2.2.length := by omega
      have HX := Aside0.mk hx
      have hst := call_step w.heap.size (jst k n j).2.1 k n x (jst k n j).2.2 wr h1 hxl hn ha.1 (by omega) hk0 hk1 hx
      have HS := Aside0.mk hst
      have HO := Aside0.mk h2
      have HW := Aside0.mk h4
      clear h1 h2 h3 h4 hl ha hm hx hxl hst
      go_wp2_with fail
      refine HS.out.mono ?_
      rintro e w2 ⟨rfl, hc2, hs2⟩
      have HC2 := Aside0.mk hc2
      have HS2 := Aside0.mk hs2
      have HO2 := Aside0.mk (own_stays hs2 (Nat.le_refl _) HO.out)
      have HZ := Aside0.mk hs2.size
      clear hc2 hs2
      go_wp2_with (at_builtin; refine wpList_append_own _ rfl _ _ 37 rfl (w.heap.size + 4) 3 i0 (.int .i64 0) 1 8 Try.underlying37 hi hz0 hz1 hz2 rfl (by decide) _ _ _ rfl (HO2.out.alloc _) ⟨w2.heap.size, 0, none⟩ 1 1 [.int .i64 ((jst k n j).2.2.getD x 0)] rfl rfl ?c1 ?c2 ?c3 ?c4 ?c5 ?_)
      case c1 => exact cell_one_new _ _ _
      case c2 => intro u hu; simp at hu; subst hu; rfl
      case c3 => unfold maxLen; omega
      case c4 => omega
      case c5 => have := HZ.out; have := HW.out; simp; omega
      intro v' w3 hown3 hgrow3 _
      have ej : jst k n (j + 1) = ((jst k n j).1 ++ [(jst k n j).2.2.getD x 0], (x : Int), (jst k n j).2.2.eraseIdx x) := by
        simp only [jst, HX.out, Int.toNat_natCast]
      have HN : Aside0 (OrdRel w w3 v' k n (j + 1)) := ⟨ord_step HF.out hlt (by rw [ej]; exact HC2.out) HS2.out (by rw [ej]; simp only [nums_append]; exact hown3) hgrow3⟩
      clear ej
      clear hown3 hgrow3
      go_wp2
      go_roundw
      case rel => exact ⟨j + 1, by omega, by go_num, HN⟩
      case measure => simp [intOf]; omega
    · obtain rfl : j = n := by omega
      go_wp2
      go_ret
      exact ⟨_, rfl, HF.out⟩

theorem own_R {w : World} {base n : Nat} {v : Value} {xs : List Int} (h : w.ownsRow base 3 1 v n (nums .i64 xs)) (hl : xs.length = n) : Kd.R (Kd.int .i64) 3 w base (fun _ => True) v xs := by
  subst hl
  refine ⟨fun _ _ => trivial, _, h, by simp [nums_length, Kd.int, Kd.scalar], fun j p hj => ?_⟩
  have hjl := (List.getElem?_eq_some_iff.1 hj)
  obtain ⟨h1, h2⟩ := hjl
  subst h2
  simp [Kd.int, Kd.scalar, nums, List.take_one, h1]

/-- 'order': for circles that fit. -/
def pole_order.f (a0 a1 : Int) : Option (List Int) := if 0 ≤ a0 ∧ a0 ≤ 1000000 ∧ 1 ≤ a1 ∧ a1 ≤ 1000000 then some (jst a1 a0.toNat a0.toNat).1 else none
theorem pole_order.calls (a0 : Int) (a1 : Int) (r : List Int) (w : World) (h : pole_order.f a0 a1 = some r) :
    Calls Try.prog 47 #[.int .i64 a0, .int .i64 a1] w fun e w' => ∃ v0_ : Value, e = .returned (v0_) ∧ Kd.R (Kd.int .i64) 3 w' w.heap.size (fun _ => True) v0_ r ∧ Below w.heap.size w w' := by
  unfold pole_order.f at h
  split at h
  · rename_i hc
    obtain ⟨h0, h1, h2, h3⟩ := hc
    simp only [Option.some.injEq] at h
    subst h
    obtain ⟨n, rfl⟩ : ∃ n : Nat, a0 = (n : Int) := ⟨_, (Int.toNat_of_nonneg h0).symm⟩
    refine (order_any n a1 w (by omega) h2 h3).mono ?_
    rintro e w' ⟨v, rfl, ⟨_, hown, hb, _⟩⟩
    exact ⟨v, rfl, own_R (own_weaken hown (by omega)) (jst_out _ _ _), hb⟩
  · cases h

end Go.Proofs.Ytndpnlpidphflaa.Hand
