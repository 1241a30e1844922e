import Derived.Test.YtnjimbgfafkogaaDoorProg
import Derived.Below
import Derived.Deep.Draws
import Derived.Deep.AppendLies
import Derived.Maps.AppendAt
import Derived.OwnWalk
import Derived.Laws.BytesArg
import Derived.Laws.MakeOwn
import Derived.Laws.OwnMore
import Derived.Deep.OwnRows
import Derived.Tactics
import Derived.Lib.ConvBytes
import Derived.Laws.Slices
import Derived.WalkKit
import Derived.KernelRfl
import Derived.RowKit3
import Derived.Deep.LoopGhost
import Derived.Deep.QuietTactic
import Derived.BigQuiet
import Derived.WideLaws
import Derived.Deep.DeepCutAuto
import Derived.Deep.CutBlock
import Derived.Deep.RegionHeld3
import Derived.Laws.Rows
import Derived.Lib.AppendStr
import Derived.ArgAppend
import Derived.Laws.IdiomCopy
import Derived.OrdersHeld
import Derived.Laws.BitsLemmas
import Derived.RowKit
import Derived.Test.YtnjimbgfafkogaaDoorWWords
import Derived.Test.YtnjimbgfafkogaaDoorWLast
import Derived.Test.YtnjimbgfafkogaaDoorWTab
import Derived.Test.YtnjimbgfafkogaaDoorWFour
import Derived.Test.YtnjimbgfafkogaaDoorWQPut
import Derived.Test.YtnjimbgfafkogaaDoorWApart
import Derived.Test.YtnjimbgfafkogaaDoorWArr
import Derived.Test.YtnjimbgfafkogaaDoorWZeros
import Derived.Test.YtnjimbgfafkogaaDoorWFoot
import Derived.Test.YtnjimbgfafkogaaDoorWKept
import Derived.Test.YtnjimbgfafkogaaDoorWShare
import Derived.Test.YtnjimbgfafkogaaDoorWN
import Derived.Test.YtnjimbgfafkogaaDoorWFootNe
import Derived.Test.YtnjimbgfafkogaaDoorWAt
import Derived.Test.YtnjimbgfafkogaaDoorWEqStruct
import Derived.Test.YtnjimbgfafkogaaDoorWRepsOne
import Derived.Test.YtnjimbgfafkogaaDoorWInv
import Derived.Test.YtnjimbgfafkogaaDoorWInvWords
import Derived.Test.YtnjimbgfafkogaaDoorWGuard
import Derived.Test.YtnjimbgfafkogaaDoorWNEv
import Derived.Test.YtnjimbgfafkogaaDoorWMore
import Derived.Test.YtnjimbgfafkogaaDoorHandQ
namespace Go.Proofs.YtnjimbgfafkogaaDoor.Hand
open Go.RowKit Go.Proofs.YtnjimbgfafkogaaDoorW.PrintWords Go.Proofs.YtnjimbgfafkogaaDoorW.PrintLast Go.Proofs.YtnjimbgfafkogaaDoorW.PrintMore
set_option linter.unusedVariables false
set_option linter.unusedSimpArgs false

/-! Spread, the program's: a closure that swaps and calls itself. -/
open Go.Proofs.YtnjimbgfafkogaaDoor.Math Go.Proofs.YtnjimbgfafkogaaDoor.Pure Go.Proofs.YtnjimbgfafkogaaDoor.Hi Go.Proofs.YtnjimbgfafkogaaDoor.Pre Go.Proofs.YtnjimbgfafkogaaDoor.Base Go.Proofs.YtnjimbgfafkogaaDoor.Print
/-- What is left of a list when its i-th element was swapped to the front and taken. -/
def swapTake (l : List Int) (i : Nat) : List Int := (l.set i (l.getD 0 0)).tail
structure SpSt (w0 : World) (n co ca ct cn bm bf : Nat) (vo : Value) (w : World) (o : List Int) (g h : Nat → Nat) : Prop where
  below : Below w0.heap.size w0 w
  hco : w.heap[co]? = some (.cells #[vo] 22)
  hca : w.heap[ca]? = some (.cells #[.slice (some ⟨bm, 0, none⟩) (n + 1) (n + 1)] 22)
  hct : w.heap[ct]? = some (.cells #[.slice (some ⟨bf, 0, none⟩) (n + 1) (n + 1)] 22)
  hcn : w.heap[cn]? = some (.cells #[.func (.func 68) #[] #[.pointer (some ⟨co, 0, none⟩), .pointer (some ⟨ca, 0, none⟩), .pointer (some ⟨ct, 0, none⟩), .pointer (some ⟨cn, 0, none⟩)]] 67)
  hm : w.heap[bm]? = some (.cells (tabV g (n + 1)) 3)
  hf : w.heap[bf]? = some (.cells (tabV h (n + 1)) 3)
  own : w.ownsRow w0.heap.size 3 1 vo n (nums .i64 o)
theorem takes_swap : Takes swapTake := by
  intro l i hi
  cases l with
  | nil => cases hi
  | cons x t =>
    cases i with
    | zero => exact List.Perm.refl _
    | succ j =>
      have hj : j < t.length := by simpa using hi
      show (t.set j x).Perm (x :: t.eraseIdx j)
      rw [List.set_eq_take_append_cons_drop, if_pos hj, List.eraseIdx_eq_take_drop_succ]
      exact List.perm_middle
theorem SpSt.keep {w0 w w1 : World} {n co ca ct cn bm bf : Nat} {vo : Value} {o : List Int} {g h : Nat → Nat} (s : SpSt w0 n co ca ct cn bm bf vo w o g h) (hb : Below w.heap.size w w1) : SpSt w0 n co ca ct cn bm bf vo w1 o g h :=
  ⟨s.below.trans (hb.mono s.below.size), (hb.5 _ (Array.getElem?_eq_some_iff.1 s.hco).1).trans s.hco, (hb.5 _ (Array.getElem?_eq_some_iff.1 s.hca).1).trans s.hca, (hb.5 _ (Array.getElem?_eq_some_iff.1 s.hct).1).trans s.hct, (hb.5 _ (Array.getElem?_eq_some_iff.1 s.hcn).1).trans s.hcn,
    (hb.5 _ (Array.getElem?_eq_some_iff.1 s.hm).1).trans s.hm, (hb.5 _ (Array.getElem?_eq_some_iff.1 s.hf).1).trans s.hf, pw_own_below s.own hb⟩
theorem ne_typed {w : World} {a b : Nat} {cs cs' : Array Value} {t t' : TypeId} (h : w.heap[a]? = some (.cells cs t)) (h' : w.heap[b]? = some (.cells cs' t')) (ht : t ≠ t') : a ≠ b := by
  rintro rfl
  rw [h] at h'
  injection h' with h'
  injection h' with _ e
  exact ht e
/-- One more at a place of the first list. -/
theorem SpSt.putM {w0 w : World} {n co ca ct cn bm bf : Nat} {vo : Value} {o : List Int} {g h : Nat → Nat} (s : SpSt w0 n co ca ct cn bm bf vo w o g h) (hbm : w0.heap.size ≤ bm) (hbn : bm ≠ bf) (hbo : ∀ j, vo.ownBlock = some j → j ≠ bm ∧ j ≠ bf) (f : List Int → Nat) (x : List Int) :
    SpSt w0 n co ca ct cn bm bf vo (w.setCell ⟨bm, f x, none⟩ (.int .i64 ((g (f x) : Int) + 1))) o (cnt f g [x]) h := by
  have e1 : ((g (f x) : Int) + 1) = ((g (f x) + 1 : Nat) : Int) := by omega
  rw [e1]
  have n1 := ne_typed s.hco s.hm (by decide)
  have n2 := ne_typed s.hca s.hm (by decide)
  have n3 := ne_typed s.hct s.hm (by decide)
  have n4 := ne_typed s.hcn s.hm (by decide)
  exact ⟨s.below.setCell (by exact hbm) _, (Below.heap_setCell _ _ _ _ n1).trans s.hco, (Below.heap_setCell _ _ _ _ n2).trans s.hca, (Below.heap_setCell _ _ _ _ n3).trans s.hct, (Below.heap_setCell _ _ _ _ n4).trans s.hcn,
    by rw [heap_setCell_same _ _ _ _ _ _ s.hm, tabV_set f g], (Below.heap_setCell _ _ _ _ hbn.symm).trans s.hf, own_setCell s.own (fun e => (hbo bm e.symm).1 rfl) _⟩
theorem SpSt.putF {w0 w : World} {n co ca ct cn bm bf : Nat} {vo : Value} {o : List Int} {g h : Nat → Nat} (s : SpSt w0 n co ca ct cn bm bf vo w o g h) (hbf : w0.heap.size ≤ bf) (hbn : bm ≠ bf) (hbo : ∀ j, vo.ownBlock = some j → j ≠ bm ∧ j ≠ bf) (f : List Int → Nat) (x : List Int) :
    SpSt w0 n co ca ct cn bm bf vo (w.setCell ⟨bf, f x, none⟩ (.int .i64 ((h (f x) : Int) + 1))) o g (cnt f h [x]) := by
  have e1 : ((h (f x) : Int) + 1) = ((h (f x) + 1 : Nat) : Int) := by omega
  rw [e1]
  have n1 := ne_typed s.hco s.hf (by decide)
  have n2 := ne_typed s.hca s.hf (by decide)
  have n3 := ne_typed s.hct s.hf (by decide)
  have n4 := ne_typed s.hcn s.hf (by decide)
  exact ⟨s.below.setCell (by exact hbf) _, (Below.heap_setCell _ _ _ _ n1).trans s.hco, (Below.heap_setCell _ _ _ _ n2).trans s.hca, (Below.heap_setCell _ _ _ _ n3).trans s.hct, (Below.heap_setCell _ _ _ _ n4).trans s.hcn,
    (Below.heap_setCell _ _ _ _ hbn).trans s.hm, by rw [heap_setCell_same _ _ _ _ _ _ s.hf, tabV_set f h], own_setCell s.own (fun e => (hbo bf e.symm).2 rfl) _⟩
/-- Two elements of the own list exchanged. -/
theorem SpSt.swap {w0 w : World} {n co ca ct cn bm bf bo c : Nat} {o : List Int} {g h : Nat → Nat} (s : SpSt w0 n co ca ct cn bm bf (.slice (some ⟨bo, 0, none⟩) n c) w o g h) (ho : o.length = n) (hbo : bo ≠ bm ∧ bo ≠ bf) (i k : Nat) (hi : i < n) (hk : k < n) (x y : Int) :
    SpSt w0 n co ca ct cn bm bf (.slice (some ⟨bo, 0, none⟩) n c) ((w.setCell ⟨bo, k, none⟩ (.int .i64 x)).setCell ⟨bo, i, none⟩ (.int .i64 y)) ((o.set k x).set i y) g h := by
  obtain ⟨hl, hv⟩ := s.own
  rcases hv with ⟨e, _⟩ | ⟨b, cap, cur, e, hb, hh, hnc, hcap, hcur, htake⟩
  · cases e
  · injection e with e1 e2 e3
    injection e1 with e1
    injection e1 with e1
    subst e1 e3
    have n1 := ne_typed s.hco hh (by decide)
    have n2 := ne_typed s.hca hh (by decide)
    have n3 := ne_typed s.hct hh (by decide)
    have n4 := ne_typed s.hcn hh (by decide)
    have far : ∀ j, j ≠ bo → ((w.setCell ⟨bo, k, none⟩ (.int .i64 x)).setCell ⟨bo, i, none⟩ (.int .i64 y)).heap[j]? = w.heap[j]? := fun j hj => (Below.heap_setCell _ _ _ _ hj).trans (Below.heap_setCell _ _ _ _ hj)
    refine ⟨(s.below.setCell (by exact hb) _).setCell (by exact hb) _, (far _ n1).trans s.hco, (far _ n2).trans s.hca, (far _ n3).trans s.hct, (far _ n4).trans s.hcn, (far _ hbo.1.symm).trans s.hm, (far _ hbo.2.symm).trans s.hf, ?_⟩
    have h1 := heap_setCell_same w bo k cur 3 (.int .i64 x) hh
    have h2 := heap_setCell_same (w.setCell ⟨bo, k, none⟩ (.int .i64 x)) bo i _ 3 (.int .i64 y) h1
    refine ⟨by simp [nums, ho], .inr ⟨bo, c, _, rfl, hb, h2, hnc, hcap, by simpa using hcur, ?_⟩⟩
    rw [Nat.mul_one] at htake ⊢
    rw [Array.toList_setIfInBounds, Array.toList_setIfInBounds, List.take_set, List.take_set, htake]
    simp [nums, List.map_set]
theorem SpSt.own_cell {w0 w : World} {n co ca ct cn bm bf bo c : Nat} {o : List Int} {g h : Nat → Nat} (s : SpSt w0 n co ca ct cn bm bf (.slice (some ⟨bo, 0, none⟩) n c) w o g h) (ho : o.length = n) :
    (∀ (i : Nat) (x : Int), i < n → rd o (i : Int) = x → w.cell? ⟨bo, i, none⟩ = some (.int .i64 x)) ∧ (∀ i, w.frozen? ⟨bo, i, none⟩ = false) ∧ co ≠ bo ∧ w.cell? ⟨co, 0, none⟩ = some (.slice (some ⟨bo, 0, none⟩) n c) ∧
      (∀ i v, (w.setCell ⟨bo, i, none⟩ v).cell? ⟨co, 0, none⟩ = some (.slice (some ⟨bo, 0, none⟩) n c)) := by
  have hco : w.cell? ⟨co, 0, none⟩ = some (.slice (some ⟨bo, 0, none⟩) n c) := by simp only [World.cell?, s.hco]; rfl
  have hcb : co ≠ bo ∧ ∀ i, w.frozen? ⟨bo, i, none⟩ = false := by
    rcases s.own.2 with ⟨e, _⟩ | ⟨b, cap, cur, e, hb, hh, _⟩
    · cases e
    · injection e with e1
      injection e1 with e1
      injection e1 with e1
      subst e1
      exact ⟨ne_typed s.hco hh (by decide), fun i => by simp only [World.frozen?, hh]; rfl⟩
  refine ⟨fun i x hi hx => ?_, hcb.2, hcb.1, hco, fun i v => (World.cell?_of_block (Below.heap_setCell _ _ _ _ hcb.1)).trans hco⟩
  obtain ⟨A', c', he', hc', hC⟩ := C_of_own s.own ho
  cases he'
  obtain ⟨a1, ea1, hxj⟩ := Kd.at_int hC (i : Int) (by omega) (by omega)
  cases ea1
  rw [Int.toNat_natCast, Addr.add_lit, Nat.zero_add] at hxj
  rw [hxj, hx]
theorem swap_back (o : List Int) (k j : Nat) (hk : k < o.length) (hj : j < o.length) : (((o.set k o[j]).set j o[k]).set k o[k]).set j o[j] = o := by
  apply List.ext_getElem (by simp)
  intro i h1 h2
  simp only [List.getElem_set]
  by_cases e1 : j = i
  · subst e1; rw [if_pos rfl]
  · rw [if_neg e1]
    by_cases e2 : k = i
    · subst e2; rw [if_pos rfl]
    · rw [if_neg e2, if_neg e1, if_neg e2]
theorem swap_head (o : List Int) (k j : Nat) (hkj : k ≤ j) (hj : j < o.length) : ((o.set k o[j]).set j (o[k]'(by omega))).take (k + 1) = o.take k ++ [o[j]] := by
  have hk : k < o.length := by omega
  rw [List.take_set, List.take_set, List.take_add_one, List.getElem?_eq_getElem hk]
  have hl : (o.take k).length = k := by rw [List.length_take]; omega
  have e1 : (o.take k ++ (some o[k]).toList).set k o[j] = o.take k ++ [o[j]] := by
    rw [List.set_append_right _ _ (by omega), hl, Nat.sub_self]; rfl
  rw [e1]
  by_cases e : j = k
  · subst e
    rw [List.set_append_right _ _ (by omega), hl, Nat.sub_self]; rfl
  · rw [List.set_eq_of_length_le (by simp [hl]; omega)]
theorem swap_rest (o : List Int) (k j : Nat) (hkj : k ≤ j) (hj : j < o.length) : ((o.set k o[j]).set j (o[k]'(by omega))).drop (k + 1) = swapTake (o.drop k) (j - k) := by
  have hk : k < o.length := by omega
  unfold swapTake
  rw [List.drop_eq_getElem_cons hk, List.getD_cons_zero]
  by_cases e : j = k
  · subst e
    rw [Nat.sub_self, List.set_cons_zero, List.tail_cons, List.drop_set_of_lt (by omega), List.drop_set_of_lt (by omega)]
  · obtain ⟨q, rfl⟩ : ∃ q, j = k + 1 + q := ⟨j - k - 1, by omega⟩
    rw [show k + 1 + q - k = q + 1 by omega, List.set_cons_succ, List.tail_cons, List.drop_set, if_neg (by omega), List.drop_set_of_lt (by omega), show k + 1 + q - (k + 1) = q by omega]
set_option maxHeartbeats 1000000 in
set_option maxRecDepth 100000 in
theorem spread1 (w0 : World) (n co ca ct cn bm bf : Nat) (vo : Value) (hn : n ≤ 8) (hbo : ∀ j, vo.ownBlock = some j → j ≠ bm ∧ j ≠ bf) (hbn : bm ≠ bf) (hbm : w0.heap.size ≤ bm) (hbf : w0.heap.size ≤ bf) (m : Nat) : ∀ (k : Nat) (o : List Int) (g h : Nat → Nat) (w : World), k + m = n → o.length = n →
    (∀ x ∈ o, -1000000 ≤ x ∧ x ≤ 1000000) → (∀ j, g j + fact m ≤ 1000000 ∧ h j + fact m ≤ 1000000) → SpSt w0 n co ca ct cn bm bf vo w o g h →
    Calls Tryd.prog 68 #[.int .i64 (k : Int), .pointer (some ⟨co, 0, none⟩), .pointer (some ⟨ca, 0, none⟩), .pointer (some ⟨ct, 0, none⟩), .pointer (some ⟨cn, 0, none⟩)] w fun e w' => e = .returned (.tuple #[]) ∧
      SpSt w0 n co ca ct cn bm bf vo w' o (cnt (pos 0) g ((gen swapTake m (o.drop k)).map (o.take k ++ ·))) (cnt fst h ((gen swapTake m (o.drop k)).map (o.take k ++ ·))) := by
  induction m with
  | zero =>
    intro k o g h w hk ho hb hgh hS
    obtain rfl : k = n := by omega
    obtain ⟨A, c, rfl, hc, hC⟩ := C_of_own hS.own ho
    have hco : w.cell? ⟨co, 0, none⟩ = some (.slice A k c) := by simp only [World.cell?, hS.hco]; rfl
    have hca : w.cell? ⟨ca, 0, none⟩ = some (.slice (some ⟨bm, 0, none⟩) (k + 1) (k + 1)) := by simp only [World.cell?, hS.hca]; rfl
    have hct : w.cell? ⟨ct, 0, none⟩ = some (.slice (some ⟨bf, 0, none⟩) (k + 1) (k + 1)) := by simp only [World.cell?, hS.hct]; rfl
    have hpl := pos_le o 0
    have hfl := fst_le o
    have hx1 : ((pos 0 o : Nat) : Int) < (k : Int) + 1 := by omega
    have hx2 : ((fst o : Nat) : Int) < (k : Int) + 1 := by omega
    have g1 := (hgh (pos 0 o)).1
    have g2 := (hgh (fst o)).2
    have hw1 : wrap64 ((g (pos 0 o) : Int) + 1) = (g (pos 0 o) : Int) + 1 := by rw [w64 (by omega)]
    have hw2 : wrap64 ((h (fst o) : Int) + 1) = (h (fst o) : Int) + 1 := by rw [w64 (by omega)]
    obtain ⟨k1, hk1⟩ := Ev.rounds (ev_above o (by omega) hb)
    obtain ⟨k2, hk2⟩ := Ev.rounds (ev_highest o (by omega) hb)
    have hab := fun w h1 => till_above.calls k1 A c o _ w h1 (by omega) hk1
    have hhi := fun w h1 => till_highest.calls k2 A c o _ _ w h1 (by omega) hk2
    rw [ho] at hab hhi
    have hgen : (gen swapTake 0 (o.drop k)).map (o.take k ++ ·) = [o] := by simp [gen, ← ho]
    rw [hgen]
    have HS := Aside0.mk hS
    have HC := Aside0.mk hC
    have HW1 := Aside0.mk hw1
    have HW2 := Aside0.mk hw2
    clear hS hC hgen hk1 hk2 hb hgh hw1 hw2 g1 g2
    have hpm : 0 ≤ ((pos 0 o : Nat) : Int) := by omega
    have hcm : ∀ w1, Below w.heap.size w w1 → w1.cell? ⟨ca, 0, none⟩ = some (.slice (some ⟨bm, 0, none⟩) (k + 1) (k + 1)) ∧ w1.cell? ⟨bm, pos 0 o, none⟩ = some (.int .i64 ((g (pos 0 o) : Nat) : Int)) ∧ w1.frozen? ⟨bm, pos 0 o, none⟩ = false := by
      intro w1 hb1
      have s := HS.out.keep hb1
      refine ⟨by simp only [World.cell?, s.hca]; rfl, by simp only [World.cell?, s.hm]; exact tabV_get g (by omega), by simp only [World.frozen?, s.hm]; rfl⟩
    have HCM := Aside0.mk hcm
    clear hcm
    go_enter Tryd.func68, Tryd.ntmps68
    go_wp2
    go_region_law (first | (go_simp; go_at_call 49; refine (hab _ (by first | exact HC.out | exact Kd.C_drew HC.out)).mono ?_; rintro e w1 ⟨rfl, hb0⟩; have hb1 : Below w.heap.size w w1 := (by first | exact hb0 | exact (below_drew (Below.refl _ w)).trans hb0); obtain ⟨hq1, hq2, hq3⟩ := HCM.out w1 hb1; have HB1 := Aside0.mk hb1; clear hb1 hb0))
    all_goals (
      have hS2 := (HS.out.keep HB1.out).putM hbm hbn hbo (pos 0) o
      rw [(i64_w _).trans HW1.out]
      obtain ⟨w2, hw2e⟩ : ∃ w2, w1.setCell ⟨bm, pos 0 o, none⟩ (.int .i64 ((g (pos 0 o) : Int) + 1)) = w2 := ⟨_, rfl⟩
      rw [hw2e] at hS2 ⊢
      obtain ⟨A', c', he', hc', hC2⟩ := C_of_own hS2.own ho
      cases he'
      have HS2 := Aside0.mk hS2
      have HC2 := Aside0.mk hC2
      clear hS2 hC2 hw2e HB1 hq1 hq2 hq3 HCM HS HC
      have hco2 : w2.cell? ⟨co, 0, none⟩ = some (.slice A k c) := by simp only [World.cell?, HS2.out.hco]; rfl
      have hct2 : w2.cell? ⟨ct, 0, none⟩ = some (.slice (some ⟨bf, 0, none⟩) (k + 1) (k + 1)) := by simp only [World.cell?, HS2.out.hct]; rfl
      have hcf : ∀ w3, Below w2.heap.size w2 w3 → w3.cell? ⟨ct, 0, none⟩ = some (.slice (some ⟨bf, 0, none⟩) (k + 1) (k + 1)) ∧ w3.cell? ⟨bf, fst o, none⟩ = some (.int .i64 ((h (fst o) : Nat) : Int)) ∧ w3.frozen? ⟨bf, fst o, none⟩ = false := by
        intro w3 hb3
        have s := HS2.out.keep hb3
        refine ⟨by simp only [World.cell?, s.hct]; rfl, by simp only [World.cell?, s.hf]; exact tabV_get h (by omega), by simp only [World.frozen?, s.hf]; rfl⟩
      have HCF := Aside0.mk hcf
      have hw2' : IntKind.i64.wrap ((h (fst o) : Int) + 1) = (h (fst o) : Int) + 1 := (i64_w _).trans HW2.out
      clear hcf
      go_wp2_with (go_at_call 69; go_loud (refine (hhi _ (by first | exact HC2.out | exact Kd.C_drew HC2.out)).mono ?_; rintro e w3 ⟨rfl, hb3⟩; obtain ⟨hq1, hq2, hq3⟩ := HCF.out w3 hb3; have HB3 := Aside0.mk hb3; clear hb3))
      ((try simp only [Exit.inBlock, Exit.then]); refine bodyPost_ret (results_none rfl _ _ _) rfl ?_)
      exact ⟨rfl, (HS2.out.keep HB3.out).putF hbf hbn hbo fst o⟩)
  | succ m ih =>
    intro k o g h w hk ho hb hgh hS
    obtain ⟨A, c, rfl, hc, hC⟩ := C_of_own hS.own ho
    have hco : w.cell? ⟨co, 0, none⟩ = some (.slice A n c) := by simp only [World.cell?, hS.hco]; rfl
    have hkn : ((k : Int) == (n : Int)) = false := beq_eq_false_iff_ne.2 (by omega)
    obtain ⟨ad, rfl, hx0⟩ := Kd.at_int hC (k : Int) (by omega) (by omega)
    have hsp := World.cell?_spot hx0
    have hA : ∃ bo, ad = ⟨bo, 0, none⟩ := by
      rcases hS.own.2 with ⟨e, _⟩ | ⟨b, cap, cur, e, _⟩
      · cases e
      · injection e with e1
        injection e1 with e1
        exact ⟨b, e1⟩
    obtain ⟨bo, rfl⟩ := hA
    have hbo2 := hbo bo rfl
    clear hx0 hsp hC
    obtain ⟨D, hD⟩ : ∃ D : Nat → List (List Int), ∀ q, D q = ((List.range q).flatMap fun q => (gen swapTake m (swapTake (o.drop k) q)).map ((o.drop k).getD q 0 :: ·)).map (o.take k ++ ·) := ⟨_, fun _ => rfl⟩
    have HD := Aside0.mk hD
    have HGH := Aside0.mk hgh
    have HBB := Aside0.mk hb
    have HIH := Aside0.mk ih
    have HS := Aside0.mk hS
    clear hS hD hgh hb ih
    go_enter Tryd.func68, Tryd.ntmps68
    go_wp2
    go_loopg [8] (m + 1) (fun q v8 wr => ∃ (j : Nat), v8 = .int .i64 (j : Int) ∧ k ≤ j ∧ j + q = n ∧ Aside0 (SpSt w0 n co ca ct cn bm bf (.slice (some ⟨bo, 0, none⟩) n c) wr o (cnt (pos 0) g (D (j - k))) (cnt fst h (D (j - k)))))
    case atStart =>
      refine ⟨k, rfl, Nat.le_refl _, by omega, ⟨?_⟩⟩
      have e : D (k - k) = [] := by rw [HD.out, Nat.sub_self]; rfl
      rw [e, cnt_nil, cnt_nil]
      exact HS.out
    case round =>
      clear HS hco
      obtain ⟨j, rfl, hkj, hjq, HS1⟩ := hrel
      have hco : wr.cell? ⟨co, 0, none⟩ = some (.slice (some ⟨bo, 0, none⟩) n c) := by simp only [World.cell?, HS1.out.hco]; rfl
      by_cases hq : gk = 0
      · subst hq
        obtain rfl : j = n := by omega
        have hd : ¬ ((j : Int) < (j : Int)) := by omega
        have e : D (j - k) = (gen swapTake (m + 1) (o.drop k)).map (o.take k ++ ·) := by
          rw [HD.out, gen, List.length_drop, ho]
        rw [e] at HS1
        go_wp2
        ((try simp only [Exit.inBlock, Exit.then]); refine bodyPost_end (results_none rfl _ _ _) rfl ?_)
        exact ⟨rfl, HS1.out⟩
      · obtain ⟨q, rfl⟩ : ∃ q, gk = q + 1 := ⟨gk - 1, by omega⟩
        have hd : (j : Int) < (n : Int) := by omega
        have hkn2 : (k : Int) < (n : Int) := by omega
        obtain ⟨xj, hej⟩ : ∃ x, rd o (j : Int) = x := ⟨_, rfl⟩
        obtain ⟨xk, hek⟩ : ∃ x, rd o (k : Int) = x := ⟨_, rfl⟩
        obtain ⟨hcell, hfz, _, _, hco2⟩ := HS1.out.own_cell ho
        have hxj := hcell j xj (by omega) hej
        have hxk := hcell k xk (by omega) hek
        have hfj := hfz j
        have hfk := hfz k
        obtain ⟨v', hy'⟩ := cell?_setCell_some (w := wr) (p := ⟨bo, k, none⟩) (x := .int .i64 xj) (q := ⟨bo, j, none⟩) (v := .int .i64 xj) hxj
        clear hfz hcell
        go_wp2
        go_region
        have hj1 : j < o.length := by omega
        have hk1 : k < o.length := by omega
        have ej : o[j] = xj := by rw [← hej, rd_get hj1]
        have ek : o[k] = xk := by rw [← hek, rd_get hk1]
        have hS2 := (HS1.out.swap ho hbo2 j k (by omega) (by omega) xj xk).keep (below_drew (Below.refl _ _))
        obtain ⟨w2, hw2⟩ : ∃ w2, ((wr.setCell ⟨bo, k, none⟩ (.int .i64 xj)).setCell ⟨bo, j, none⟩ (.int .i64 xk)).drew = w2 := ⟨_, rfl⟩
        rw [hw2] at hS2 ⊢
        obtain ⟨o2, ho2⟩ : ∃ o2, (o.set k xj).set j xk = o2 := ⟨_, rfl⟩
        rw [ho2] at hS2
        have HS2 := Aside0.mk hS2
        clear hw2 hS2 HS1 hco hco2 hy' hxj hxk hfj hfk
        have hl2 : o2.length = n := by rw [← ho2]; simp [ho]
        have hb2 : ∀ x ∈ o2, -1000000 ≤ x ∧ x ≤ 1000000 := by
          intro x hx
          rw [← ho2] at hx
          rcases List.mem_or_eq_of_mem_set hx with hx | rfl
          · rcases List.mem_or_eq_of_mem_set hx with hx | rfl
            · exact HBB.out x hx
            · exact HBB.out _ (ej ▸ List.getElem_mem hj1)
          · exact HBB.out _ (ek ▸ List.getElem_mem hk1)
        have hD1 : D (j + 1 - k) = D (j - k) ++ (gen swapTake m (o2.drop (k + 1))).map (o2.take (k + 1) ++ ·) := by
          have e1 := swap_head o k j hkj hj1
          have e2 := swap_rest o k j hkj hj1
          rw [ej, ek, ho2] at e1 e2
          have e3 : (o.drop k).getD (j - k) 0 = xj := by
            rw [List.getD_eq_getElem?_getD, List.getElem?_drop, show k + (j - k) = j by omega, List.getElem?_eq_getElem hj1, ej]; rfl
          rw [HD.out, HD.out, show j + 1 - k = (j - k) + 1 by omega, List.range_succ, List.flatMap_append, List.map_append, List.flatMap_singleton, e3, List.map_map, e1, e2]
          congr 1
          refine List.map_congr_left fun z _ => ?_
          simp
        have hlenD : (D (j - k)).length ≤ (j - k) * fact m := by
          rw [HD.out, List.length_map]
          have hfl : ∀ (L : List Nat), (∀ q ∈ L, q < (o.drop k).length) → (L.flatMap fun q => (gen swapTake m (swapTake (o.drop k) q)).map ((o.drop k).getD q 0 :: ·)).length ≤ L.length * fact m := by
            intro L
            induction L with
            | nil => intro _; simp
            | cons q L ihL =>
              intro hL
              have h1 := hL q (by simp)
              have h2 := ihL (fun z hz => hL z (by simp [hz]))
              rw [List.flatMap_cons, List.length_append, List.length_map, gen_length takes_swap m (swapTake (o.drop k) q) (by rw [(takes_swap _ _ h1).length_eq, List.length_eraseIdx_of_lt h1, List.length_drop]; omega), List.length_cons, Nat.succ_mul]
              omega
          have := hfl (List.range (j - k)) (fun q hq => by have := List.mem_range.1 hq; rw [List.length_drop]; omega)
          rwa [List.length_range] at this
        have hfac : (j - k) * fact m + fact m ≤ fact (m + 1) := by
          rw [fact, ← Nat.succ_mul]
          exact Nat.mul_le_mul_right _ (by omega)
        have hcall := HIH.out (k + 1) o2 _ _ w2 (by omega) hl2 hb2 (fun z => by
          have h1 := HGH.out z
          have h2 := cnt_le (pos 0) g (D (j - k)) z
          have h3 := cnt_le fst h (D (j - k)) z
          omega) HS2.out
        rw [← cnt_append, ← cnt_append, ← hD1] at hcall
        have hcn : w2.cell? ⟨cn, 0, none⟩ = some (.func (.func 68) #[] #[.pointer (some ⟨co, 0, none⟩), .pointer (some ⟨ca, 0, none⟩), .pointer (some ⟨ct, 0, none⟩), .pointer (some ⟨cn, 0, none⟩)]) := by simp only [World.cell?, HS2.out.hcn]; rfl
        rw [show ((k + 1 : Nat) : Int) = (k : Int) + 1 by omega] at hcall
        have HCALL := Aside0.mk hcall
        clear hlenD hfac HS2 hb2 hD1 hcall
        go_wp2_with (go_at_call 68; go_loud (refine HCALL.out.mono ?_; rintro e w3 ⟨rfl, hS3⟩; have HS3 := Aside0.mk hS3; clear hS3 hcn HCALL))
        have hcellB := (HS3.out.own_cell hl2)
        obtain ⟨hcell, hfz, _, hco, hco2⟩ := hcellB
        have e2j : rd o2 (j : Int) = xk := by rw [rd_get (by omega)]; simp [← ho2]
        have e2k : rd o2 (k : Int) = xj := by
          rw [rd_get (by omega)]
          simp only [← ho2, List.getElem_set]
          by_cases e : j = k
          · subst e; rw [if_pos rfl, ← ek, ej]
          · rw [if_neg e, if_pos trivial]
        have hxj := hcell j xk (by omega) e2j
        have hxk := hcell k xj (by omega) e2k
        have hfj := hfz j
        have hfk := hfz k
        obtain ⟨v', hy'⟩ := cell?_setCell_some (w := w3) (p := ⟨bo, k, none⟩) (x := .int .i64 xk) (q := ⟨bo, j, none⟩) (v := .int .i64 xk) hxj
        have hS4 := (HS3.out.swap hl2 hbo2 j k (by omega) (by omega) xk xj).keep (below_drew (Below.refl _ _))
        have hback : (o2.set k xk).set j xj = o := by
          have := swap_back o k j hk1 hj1
          rwa [ej, ek, ho2] at this
        rw [hback] at hS4
        have HS4 := Aside0.mk hS4
        clear hfz hcell hS4 HS3 e2j e2k hback ho2 hej hek
        go_region
        go_wp2
        go_roundg q
        case measure => omega
        case rel => exact ⟨j + 1, by go_num, by omega, by omega, HS4⟩

end Go.Proofs.YtnjimbgfafkogaaDoor.Hand
