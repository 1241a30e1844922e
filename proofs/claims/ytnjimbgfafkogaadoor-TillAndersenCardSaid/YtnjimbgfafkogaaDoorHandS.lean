import Derived.Test.YtnjimbgfafkogaaDoorProg
import Derived.Below
import Derived.Deep.Draws
import Derived.Deep.AppendLies
import Derived.Maps.AppendAt
import Derived.OwnWalk
import Derived.Laws.BytesArg
import Derived.Laws.MakeOwn
import Derived.Laws.OwnMore
import Derived.Deep.OwnRows
import Derived.Tactics
import Derived.Lib.ConvBytes
import Derived.Laws.Slices
import Derived.WalkKit
import Derived.KernelRfl
import Derived.RowKit3
import Derived.Deep.LoopGhost
import Derived.Deep.QuietTactic
import Derived.BigQuiet
import Derived.WideLaws
import Derived.Deep.DeepCutAuto
import Derived.Deep.CutBlock
import Derived.Deep.RegionHeld3
import Derived.Laws.Rows
import Derived.Lib.AppendStr
import Derived.ArgAppend
import Derived.Laws.IdiomCopy
import Derived.OrdersHeld
import Derived.Laws.BitsLemmas
import Derived.RowKit
import Derived.Test.YtnjimbgfafkogaaDoorWWords
import Derived.Test.YtnjimbgfafkogaaDoorWLast
import Derived.Test.YtnjimbgfafkogaaDoorWTab
import Derived.Test.YtnjimbgfafkogaaDoorWFour
import Derived.Test.YtnjimbgfafkogaaDoorWQPut
import Derived.Test.YtnjimbgfafkogaaDoorWApart
import Derived.Test.YtnjimbgfafkogaaDoorWArr
import Derived.Test.YtnjimbgfafkogaaDoorWZeros
import Derived.Test.YtnjimbgfafkogaaDoorWFoot
import Derived.Test.YtnjimbgfafkogaaDoorWKept
import Derived.Test.YtnjimbgfafkogaaDoorWShare
import Derived.Test.YtnjimbgfafkogaaDoorWN
import Derived.Test.YtnjimbgfafkogaaDoorWFootNe
import Derived.Test.YtnjimbgfafkogaaDoorWAt
import Derived.Test.YtnjimbgfafkogaaDoorWEqStruct
import Derived.Test.YtnjimbgfafkogaaDoorWRepsOne
import Derived.Test.YtnjimbgfafkogaaDoorWInv
import Derived.Test.YtnjimbgfafkogaaDoorWInvWords
import Derived.Test.YtnjimbgfafkogaaDoorWGuard
import Derived.Test.YtnjimbgfafkogaaDoorWNEv
import Derived.Test.YtnjimbgfafkogaaDoorWMore
import Derived.Test.YtnjimbgfafkogaaDoorHandR
import Derived.Laws.EntriesVeiled
namespace Go.Proofs.YtnjimbgfafkogaaDoor.Hand
open Go.RowKit Go.Proofs.YtnjimbgfafkogaaDoorW.PrintWords Go.Proofs.YtnjimbgfafkogaaDoorW.PrintLast Go.Proofs.YtnjimbgfafkogaaDoorW.PrintMore
set_option linter.unusedVariables false
set_option linter.unusedSimpArgs false

/-! Spread, the program's: the function. -/
open Go.Proofs.YtnjimbgfafkogaaDoor.Math Go.Proofs.YtnjimbgfafkogaaDoor.Pure Go.Proofs.YtnjimbgfafkogaaDoor.Hi Go.Proofs.YtnjimbgfafkogaaDoor.Pre Go.Proofs.YtnjimbgfafkogaaDoor.Base Go.Proofs.YtnjimbgfafkogaaDoor.Print
theorem set_past {w : World} (o : Obj) (n i : Nat) (v : Value) (hn : n < w.heap.size) : (w.alloc o).setCell ⟨n, i, none⟩ v = (w.setCell ⟨n, i, none⟩ v).alloc o := by
  unfold World.setCell World.alloc
  congr 1
  apply Array.ext_getElem?
  intro k
  simp only [Array.getElem?_modify, Array.getElem?_push, Array.size_modify]
  by_cases hk : k = w.heap.size
  · subst hk
    simp [Nat.ne_of_lt hn]
  · simp [hk]
theorem deep4_cell (W : World) (v : Value) (t : TypeId) (o1 o2 o3 : Obj) : ((((W.alloc (.cells #[v] t)).alloc o1).alloc o2).alloc o3).cell? ⟨W.heap.size, 0, none⟩ = some v := by
  rw [World.cell?_alloc_lt _ _ _ (by simp; omega), World.cell?_alloc_lt _ _ _ (by simp; omega), World.cell?_alloc_lt _ _ _ (by simp), World.cell?_alloc_new]; rfl
theorem deep4_frozen (W : World) (v : Value) (t : TypeId) (o1 o2 o3 : Obj) : ((((W.alloc (.cells #[v] t)).alloc o1).alloc o2).alloc o3).frozen? ⟨W.heap.size, 0, none⟩ = false := by
  rw [World.frozen?_alloc_old _ _ _ (by simp; omega), World.frozen?_alloc_old _ _ _ (by simp; omega), World.frozen?_alloc_old _ _ _ (by simp), World.frozen?_alloc_new]
theorem deep4_set (W : World) (v u : Value) (t : TypeId) (o1 o2 o3 : Obj) : ((((W.alloc (.cells #[v] t)).alloc o1).alloc o2).alloc o3).setCell ⟨W.heap.size, 0, none⟩ u = ((((W.alloc (.cells #[u] t)).alloc o1).alloc o2).alloc o3) := by
  rw [set_past _ _ _ _ (by simp; omega), set_past _ _ _ _ (by simp; omega), set_past _ _ _ _ (by simp), World.setCell_alloc_new]; rfl
theorem deep3_cell (W : World) (v : Value) (t : TypeId) (o1 o2 : Obj) : (((W.alloc (.cells #[v] t)).alloc o1).alloc o2).cell? ⟨W.heap.size, 0, none⟩ = some v := by
  rw [World.cell?_alloc_lt _ _ _ (by simp; omega), World.cell?_alloc_lt _ _ _ (by simp), World.cell?_alloc_new]; rfl
theorem deep3_frozen (W : World) (v : Value) (t : TypeId) (o1 o2 : Obj) : (((W.alloc (.cells #[v] t)).alloc o1).alloc o2).frozen? ⟨W.heap.size, 0, none⟩ = false := by
  rw [World.frozen?_alloc_old _ _ _ (by simp; omega), World.frozen?_alloc_old _ _ _ (by simp), World.frozen?_alloc_new]
theorem deep3_set (W : World) (v u : Value) (t : TypeId) (o1 o2 : Obj) : (((W.alloc (.cells #[v] t)).alloc o1).alloc o2).setCell ⟨W.heap.size, 0, none⟩ u = (((W.alloc (.cells #[u] t)).alloc o1).alloc o2) := by
  rw [set_past _ _ _ _ (by simp; omega), set_past _ _ _ _ (by simp), World.setCell_alloc_new]; rfl
theorem two_cell (W : World) (v : Value) (t : TypeId) (o : Obj) : ((W.alloc o).alloc (.cells #[v] t)).cell? ⟨W.heap.size + 1, 0, none⟩ = some v := by
  simp
theorem two_frozen (W : World) (v : Value) (t : TypeId) (o : Obj) : ((W.alloc o).alloc (.cells #[v] t)).frozen? ⟨W.heap.size + 1, 0, none⟩ = false := by
  simp
theorem two_set (W : World) (v u : Value) (t : TypeId) (o : Obj) : ((W.alloc o).alloc (.cells #[v] t)).setCell ⟨W.heap.size + 1, 0, none⟩ u = (W.alloc o).alloc (.cells #[u] t) := by
  have := World.setCell_alloc_new (w := W.alloc o) #[v] t 0 u
  simpa using this
theorem clone_all {w : World} {A : Option Addr} {n c : Nat} {l : List Int} (h : Kd.C (Kd.int .i64) w A n l) (hl : l.length = n) (hn : n ≤ 1000) :
    Calls Tryd.prog 67 #[.slice A n c] w fun e w' => ∃ v', e = .returned v' ∧ w'.ownsRow w.heap.size 3 1 v' n (nums .i64 l) ∧ Below w.heap.size w w' := by
  cases A with
  | none =>
    refine (Tryd.slices_Clone_int_nil n c w).mono ?_
    rintro e w' ⟨rfl, rfl⟩
    have h0 : l.length = 0 := by
      rcases Nat.eq_zero_or_pos n with e | e
      · omega
      · obtain ⟨a1, ea1, _⟩ := Kd.at_int h 0 (by omega) (by omega)
        cases ea1
    obtain rfl := List.eq_nil_of_length_eq_zero h0
    simp at hl
    subst hl
    exact ⟨_, rfl, own_nil _ _ _ _, Below.refl _ _⟩
  | some a =>
    rcases Nat.eq_zero_or_pos n with e | e
    · subst e
      obtain rfl := List.eq_nil_of_length_eq_zero hl
      refine (Tryd.slices_Clone_int_zero a c w).mono ?_
      rintro e w' ⟨v', rfl, h1, _, h2⟩
      exact ⟨v', rfl, h1, h2⟩
    · obtain ⟨ad, ea, h0⟩ := Kd.at_int h 0 (by omega) (by omega)
      cases ea
      have hs := World.cell?_spot h0
      obtain ⟨b, off, spot⟩ := a
      obtain rfl : spot = none := by simpa [Addr.add] using hs
      refine (Tryd.slices_Clone_int b off n c l w (by omega) (by omega) (fun j hj => ?_)).mono ?_
      · obtain ⟨ad, e, hx⟩ := Kd.at_int h (j : Int) (by omega) (by omega)
        cases e
        rw [Int.toNat_natCast] at hx
        rw [← Addr.add_lit, hx]
        simp [rd]
      · rintro e w' ⟨v', rfl, h1, _, h2⟩
        rw [← hl, List.take_length] at h1
        exact ⟨v', rfl, by rw [← hl]; exact h1, h2⟩
theorem four_new (W : World) (o0 o1 o2 o3 : Obj) : ((((W.alloc o0).alloc o1).alloc o2).alloc o3).heap[W.heap.size]? = some o0 ∧ ((((W.alloc o0).alloc o1).alloc o2).alloc o3).heap[W.heap.size + 1]? = some o1 ∧ ((((W.alloc o0).alloc o1).alloc o2).alloc o3).heap[W.heap.size + 1 + 1]? = some o2 ∧ ((((W.alloc o0).alloc o1).alloc o2).alloc o3).heap[W.heap.size + 1 + 1 + 1]? = some o3 := by
  have e1 : (W.alloc o0).heap.size = W.heap.size + 1 := by simp
  have e2 : ((W.alloc o0).alloc o1).heap.size = W.heap.size + 1 + 1 := by simp
  have e3 : (((W.alloc o0).alloc o1).alloc o2).heap.size = W.heap.size + 1 + 1 + 1 := by simp
  have n0 := heap_alloc_new W o0
  have n1 := heap_alloc_new (W.alloc o0) o1
  have n2 := heap_alloc_new ((W.alloc o0).alloc o1) o2
  have n3 := heap_alloc_new (((W.alloc o0).alloc o1).alloc o2) o3
  rw [e1] at n1
  rw [e2] at n2
  rw [e3] at n3
  refine ⟨?_, ?_, ?_, n3⟩
  · rw [Below.heap_alloc _ _ _ (by omega), Below.heap_alloc _ _ _ (by omega), Below.heap_alloc _ _ _ (by omega)]; exact n0
  · rw [Below.heap_alloc _ _ _ (by omega), Below.heap_alloc _ _ _ (by omega)]; exact n1
  · rw [Below.heap_alloc _ _ _ (by omega)]; exact n2
theorem SpSt.build {w W w5 : World} {n ca ct bm bf : Nat} {v5 : Value} {o : List Int} (hb : Below w.heap.size w W) (hb5 : Below W.heap.size W w5) (ho : w5.ownsRow W.heap.size 3 1 v5 n (nums .i64 o))
    (h1 : W.heap[ca]? = some (.cells #[.slice (some ⟨bm, 0, none⟩) (n + 1) (n + 1)] 22)) (h2 : W.heap[ct]? = some (.cells #[.slice (some ⟨bf, 0, none⟩) (n + 1) (n + 1)] 22))
    (h3 : W.heap[bm]? = some (.cells (madeCells #[.int .i64 0] (n + 1)) 3)) (h4 : W.heap[bf]? = some (.cells (madeCells #[.int .i64 0] (n + 1)) 3)) :
    SpSt w n w5.heap.size ca ct (w5.heap.size + 1) bm bf v5 ((w5.alloc (.cells #[v5] 22)).alloc (.cells #[.func (.func 68) #[] #[.pointer (some ⟨w5.heap.size, 0, none⟩), .pointer (some ⟨ca, 0, none⟩), .pointer (some ⟨ct, 0, none⟩), .pointer (some ⟨w5.heap.size + 1, 0, none⟩)]] 67)) o (fun _ => 0) (fun _ => 0) := by
  have old : ∀ j x, W.heap[j]? = some x → ∀ o1 o2, ((w5.alloc o1).alloc o2).heap[j]? = some x := fun j x hj o1 o2 => by
    have hl := (Array.getElem?_eq_some_iff.1 hj).1
    have h5 := hb5.size
    rw [Below.heap_alloc _ _ _ (by simp; omega), Below.heap_alloc _ _ _ (by omega)]
    exact (hb5.5 j hl).trans hj
  have hs : (w5.alloc (.cells #[v5] 22)).heap.size = w5.heap.size + 1 := by simp
  have hn := heap_alloc_new (w5.alloc (.cells #[v5] 22)) (.cells #[.func (.func 68) #[] #[.pointer (some ⟨w5.heap.size, 0, none⟩), .pointer (some ⟨ca, 0, none⟩), .pointer (some ⟨ct, 0, none⟩), .pointer (some ⟨w5.heap.size + 1, 0, none⟩)]] 67)
  rw [hs] at hn
  rw [made_tab] at h3 h4
  refine ⟨below_alloc (below_alloc (hb.trans (hb5.mono hb.size)) _) _, ?_, old _ _ h1 _ _, old _ _ h2 _ _, hn, old _ _ h3 _ _, old _ _ h4 _ _, ?_⟩
  · rw [Below.heap_alloc _ _ _ (by simp)]
    exact heap_alloc_new w5 _
  · exact own_less (own_move ho (fun k hk => by
      obtain ⟨cells, hh⟩ := own_typed ho k hk
      have := (Array.getElem?_eq_some_iff.1 hh).1
      rw [Below.heap_alloc _ _ _ (by simp; omega), Below.heap_alloc _ _ _ (by omega)])) hb.size
theorem spread2 (w0 : World) {co ca ct cn bm bf : Nat} {vo : Value} (o : List Int) (w : World) (hn : o.length ≤ 8) (hb : ∀ x ∈ o, -1000000 ≤ x ∧ x ≤ 1000000) (hS : SpSt w0 o.length co ca ct cn bm bf vo w o (fun _ => 0) (fun _ => 0)) (hbo : ∀ j, vo.ownBlock = some j → j ≠ bm ∧ j ≠ bf) (hbn : bm ≠ bf) (hbm : w0.heap.size ≤ bm) (hbf : w0.heap.size ≤ bf) :
    Calls Tryd.prog 68 #[.int .i64 0, .pointer (some ⟨co, 0, none⟩), .pointer (some ⟨ca, 0, none⟩), .pointer (some ⟨ct, 0, none⟩), .pointer (some ⟨cn, 0, none⟩)] w fun e w' => e = .returned (.tuple #[]) ∧
      SpSt w0 o.length co ca ct cn bm bf vo w' o (cnt (pos 0) (fun _ => 0) (gen swapTake o.length o)) (cnt fst (fun _ => 0) (gen swapTake o.length o)) := by
  have hf := fact_8 hn
  have h := spread1 w0 o.length co ca ct cn bm bf vo hn hbo hbn hbm hbf o.length 0 o (fun _ => 0) (fun _ => 0) w (by omega) rfl hb (fun j => by constructor <;> omega) hS
  have e : ((gen swapTake o.length (o.drop 0)).map (o.take 0 ++ ·)) = gen swapTake o.length o := by simp
  rw [e] at h
  exact h
theorem SpSt.cell_a {w0 w : World} {n co ca ct cn bm bf : Nat} {vo : Value} {o : List Int} {g h : Nat → Nat} (s : SpSt w0 n co ca ct cn bm bf vo w o g h) : w.cell? ⟨ca, 0, none⟩ = some (.slice (some ⟨bm, 0, none⟩) (n + 1) (n + 1)) := by simp only [World.cell?, s.hca]; rfl
theorem SpSt.cell_t {w0 w : World} {n co ca ct cn bm bf : Nat} {vo : Value} {o : List Int} {g h : Nat → Nat} (s : SpSt w0 n co ca ct cn bm bf vo w o g h) : w.cell? ⟨ct, 0, none⟩ = some (.slice (some ⟨bf, 0, none⟩) (n + 1) (n + 1)) := by simp only [World.cell?, s.hct]; rfl
def till_Spread.f (l : List Int) : Option (List Int × List Int × Int) := if l.length ≤ 1000 then some (spreadR l (gen swapTake l.length l)) else none
set_option maxHeartbeats 40000000 in
set_option maxRecDepth 100000 in
theorem till_Spread.calls (A0 : Option Addr) (c0 : Nat) (l0 : List Int) (r1 r2 : List Int) (r3 : Int) (w : World) (hr0 : Kd.C (Kd.int .i64) w A0 l0.length l0) (hc0 : l0.length ≤ c0) (h : till_Spread.f l0 = some (r1, r2, r3)) :
    Calls Tryd.prog 44 #[.slice A0 l0.length c0] w fun e w' => ∃ v0_ v1_ : Value, e = .returned (.tuple #[v0_, v1_, .int .i64 r3]) ∧ Kd.R (Kd.int .i64) 3 w' w.heap.size (fun _ => True) v0_ r1 ∧ Kd.R (Kd.int .i64) 3 w' w.heap.size (fun _ => True) v1_ r2 ∧ Below w.heap.size w w' := by
  unfold till_Spread.f at h
  by_cases hl : l0.length ≤ 1000
  · rw [if_pos hl] at h
    replace h := Option.some.inj h
    obtain ⟨k, hk⟩ := Ev.rounds (ev_counted l0 hl)
    have ham := fun w h1 => till_counted.calls k A0 c0 l0 _ w h1 hc0 hk
    have HC := Aside0.mk hr0
    unfold spreadR at h
    by_cases h0 : amountsE l0 = 0
    · rw [if_pos h0] at h
      rw [h0] at ham
      by_cases h8 : l0.length > 8
      · rw [if_pos h8] at h
        simp only [Prod.mk.injEq] at h
        obtain ⟨rfl, rfl, rfl⟩ := h
        have hd : (8 : Int) < (l0.length : Int) := by omega
        clear hk hr0 h0
        go_enter Tryd.func44, Tryd.ntmps44
        go_wp2_with (first | (go_at_call 48; go_loud (refine (ham _ HC.out).mono ?_; rintro e w1 ⟨rfl, ⟨nd, rfl⟩⟩)))
        go_ret3
        exact ⟨_, _, rfl, Kd.R_nil _ _ _ _ _, Kd.R_nil _ _ _ _ _, pw_below_drewN (Below.refl _ _) _⟩
      · rw [if_neg h8] at h
        simp only [Prod.mk.injEq] at h
        obtain ⟨rfl, rfl, rfl⟩ := h
        have hd : ¬ ((8 : Int) < (l0.length : Int)) := by omega
        have info3 : (Tryd.prog.info? 3).map (fun i => (i.zero, i.size, i.bytes)) = some (some (.int .i64 0), 1, 8) := by kernel_rfl
        have hmk : ∀ W : World, (Instr.makeSlice 22 (.int .i64 ((l0.length : Int) + 1)) (.int .i64 ((l0.length : Int) + 1))).run Tryd.prog W = .ok (.slice (some ⟨W.heap.size, 0, none⟩) (l0.length + 1) (l0.length + 1)) (W.alloc (.cells (madeCells #[.int .i64 0] (l0.length + 1)) 3)) := by
          have := print_make (P := Tryd.prog) 22 3 .i64 8 Tryd.underlying22 info3 (by decide) (l0.length + 1) (by omega)
          rw [Int.natCast_succ] at this
          exact this
        have hw1 : wrap64 ((l0.length : Int) + 1) = (l0.length : Int) + 1 := by rw [w64 (by omega)]
        have hb := (amounts_ok h0).2
        have HB0 := Aside0.mk hb
        clear hk hr0 h0 hb
        have h8' : l0.length ≤ 8 := by omega
        have hfa : fact l0.length ≤ 40320 := fact_8 h8'
        have hq4 : ∀ (n : Nat) (o1 o2 o3 : Obj) (v : Value), (((((w.drewN n).alloc (.cells #[v] 22)).alloc o1).alloc o2).alloc o3).cell? ⟨w.heap.size, 0, none⟩ = some v := fun n o1 o2 o3 v => deep4_cell (w.drewN n) v 22 o1 o2 o3
        have hf4 : ∀ (n : Nat) (o1 o2 o3 : Obj) (v : Value), (((((w.drewN n).alloc (.cells #[v] 22)).alloc o1).alloc o2).alloc o3).frozen? ⟨w.heap.size, 0, none⟩ = false := fun n o1 o2 o3 v => deep4_frozen (w.drewN n) v 22 o1 o2 o3
        have hs4 : ∀ (n : Nat) (o1 o2 o3 : Obj) (v u : Value), (((((w.drewN n).alloc (.cells #[v] 22)).alloc o1).alloc o2).alloc o3).setCell ⟨w.heap.size, 0, none⟩ u = (((((w.drewN n).alloc (.cells #[u] 22)).alloc o1).alloc o2).alloc o3) := fun n o1 o2 o3 v u => deep4_set (w.drewN n) v u 22 o1 o2 o3
        have hq3 : ∀ (n : Nat) (o1 o2 : Obj) (v : Value), ((((w.drewN n).alloc (.cells #[v] 22)).alloc o1).alloc o2).cell? ⟨w.heap.size, 0, none⟩ = some v := fun n o1 o2 v => deep3_cell (w.drewN n) v 22 o1 o2
        have hf3 : ∀ (n : Nat) (o1 o2 : Obj) (v : Value), ((((w.drewN n).alloc (.cells #[v] 22)).alloc o1).alloc o2).frozen? ⟨w.heap.size, 0, none⟩ = false := fun n o1 o2 v => deep3_frozen (w.drewN n) v 22 o1 o2
        have hs3 : ∀ (n : Nat) (o1 o2 : Obj) (v u : Value), ((((w.drewN n).alloc (.cells #[v] 22)).alloc o1).alloc o2).setCell ⟨w.heap.size, 0, none⟩ u = ((((w.drewN n).alloc (.cells #[u] 22)).alloc o1).alloc o2) := fun n o1 o2 v u => deep3_set (w.drewN n) v u 22 o1 o2
        have hq5 : ∀ (n : Nat) (o0 o1 o2 : Obj) (v : Value), (((((w.drewN n).alloc o0).alloc (.cells #[v] 22)).alloc o1).alloc o2).cell? ⟨w.heap.size + 1, 0, none⟩ = some v := fun n o0 o1 o2 v => by have := deep3_cell ((w.drewN n).alloc o0) v 22 o1 o2; simpa using this
        have hf5 : ∀ (n : Nat) (o0 o1 o2 : Obj) (v : Value), (((((w.drewN n).alloc o0).alloc (.cells #[v] 22)).alloc o1).alloc o2).frozen? ⟨w.heap.size + 1, 0, none⟩ = false := fun n o0 o1 o2 v => by have := deep3_frozen ((w.drewN n).alloc o0) v 22 o1 o2; simpa using this
        have hs5 : ∀ (n : Nat) (o0 o1 o2 : Obj) (v u : Value), (((((w.drewN n).alloc o0).alloc (.cells #[v] 22)).alloc o1).alloc o2).setCell ⟨w.heap.size + 1, 0, none⟩ u = (((((w.drewN n).alloc o0).alloc (.cells #[u] 22)).alloc o1).alloc o2) := fun n o0 o1 o2 v u => by have := deep3_set ((w.drewN n).alloc o0) v u 22 o1 o2; simpa using this
        go_enter Tryd.func44, Tryd.ntmps44
        go_wp2_with (first | (go_at_call 48; go_loud (refine (ham _ HC.out).mono ?_; rintro e w1 ⟨rfl, ⟨nd, rfl⟩⟩)))
        go_region
        all_goals go_wp2_with (first | (go_at_call 67; go_loud (refine (clone_all (Kd.C_below HC.out (by repeat (first | exact Below.refl _ _ | apply below_alloc | apply pw_below_drewN | apply below_drew1))) rfl (by omega)).mono ?_; rintro e w5 ⟨v5, rfl, hown5, hb5⟩; obtain ⟨A5, c5, rfl, hc5, hC5⟩ := C_of_own hown5 rfl; have HO5 := Aside0.mk hown5; have HB5 := Aside0.mk hb5; clear hC5 hown5 hb5 hc5; have hq6 := two_cell w5; have hf6 := two_frozen w5; have hs6 := two_set w5; clear hq4 hf4 hs4 hq3 hf3 hs3 hq5 hf5 hs5)) | (go_at_call 68; go_loud (refine (spread2 w l0 _ h8' HB0.out (SpSt.build (w := w) (n := l0.length) (o := l0) (by repeat (first | exact Below.refl _ _ | apply below_alloc | apply pw_below_drewN | apply below_drew1)) HB5.out HO5.out (by first | exact (four_new (w.drewN _) _ _ _ _).1 | exact (four_new (w.drewN _) _ _ _ _).2.1 | exact (four_new (w.drewN _) _ _ _ _).2.2.1 | exact (four_new (w.drewN _) _ _ _ _).2.2.2) (by first | exact (four_new (w.drewN _) _ _ _ _).1 | exact (four_new (w.drewN _) _ _ _ _).2.1 | exact (four_new (w.drewN _) _ _ _ _).2.2.1 | exact (four_new (w.drewN _) _ _ _ _).2.2.2) (by first | exact (four_new (w.drewN _) _ _ _ _).1 | exact (four_new (w.drewN _) _ _ _ _).2.1 | exact (four_new (w.drewN _) _ _ _ _).2.2.1 | exact (four_new (w.drewN _) _ _ _ _).2.2.2) (by first | exact (four_new (w.drewN _) _ _ _ _).1 | exact (four_new (w.drewN _) _ _ _ _).2.1 | exact (four_new (w.drewN _) _ _ _ _).2.2.1 | exact (four_new (w.drewN _) _ _ _ _).2.2.2)) (fun j hj => by have := own_base HO5.out j hj; simp at this; constructor <;> omega) (by omega) (by first | exact Nat.le_refl _ | omega) (by first | exact Nat.le_refl _ | omega)).mono ?_; rintro e w6 ⟨rfl, hS6⟩; have hca6 := hS6.cell_a; have hct6 := hS6.cell_t; have HS6 := Aside0.mk hS6; clear hS6)))
        all_goals (try go_region)
        all_goals (try go_wp2)
        all_goals go_ret3
        all_goals exact ⟨_, _, rfl, own_tab HS6.out.hm (by first | exact Nat.le_refl _ | omega) (by omega), own_tab HS6.out.hf (by first | exact Nat.le_refl _ | omega) (by omega), (by first | exact below_drew HS6.out.below | exact HS6.out.below)⟩
    · rw [if_neg h0] at h
      simp only [Prod.mk.injEq] at h
      obtain ⟨rfl, rfl, rfl⟩ := h
      have hd : ((amountsE l0) == 0) = false := beq_eq_false_iff_ne.2 h0
      clear hk hr0
      go_enter Tryd.func44, Tryd.ntmps44
      go_wp2_with (first | (go_at_call 48; go_loud (refine (ham _ HC.out).mono ?_; rintro e w1 ⟨rfl, ⟨nd, rfl⟩⟩)))
      go_ret3
      exact ⟨_, _, rfl, Kd.R_nil _ _ _ _ _, Kd.R_nil _ _ _ _ _, pw_below_drewN (Below.refl _ _) _⟩
  · rw [if_neg hl] at h; cases h

end Go.Proofs.YtnjimbgfafkogaaDoor.Hand
