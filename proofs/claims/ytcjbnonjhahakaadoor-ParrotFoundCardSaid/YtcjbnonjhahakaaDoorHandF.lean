import Derived.Test.YtcjbnonjhahakaaDoorProg
import Derived.Below
import Derived.Deep.Draws
import Derived.Deep.AppendLies
import Derived.Maps.AppendAt
import Derived.OwnWalk
import Derived.Laws.BytesArg
import Derived.Laws.MakeOwn
import Derived.Laws.OwnMore
import Derived.Deep.OwnRows
import Derived.Tactics
import Derived.Lib.ConvBytes
import Derived.Laws.Slices
import Derived.WalkKit
import Derived.KernelRfl
import Derived.RowKit3
import Derived.Deep.LoopGhost
import Derived.Deep.QuietTactic
import Derived.BigQuiet
import Derived.WideLaws
import Derived.Deep.DeepCutAuto
import Derived.Deep.CutBlock
import Derived.Deep.RegionHeld3
import Derived.Laws.Rows
import Derived.Lib.AppendStr
import Derived.ArgAppend
import Derived.Laws.IdiomCopy
import Derived.OrdersHeld
import Derived.Laws.BitsLemmas
import Derived.RowKit
import Derived.Test.YtcjbnonjhahakaaDoorWWords
import Derived.Test.YtcjbnonjhahakaaDoorWLast
import Derived.Test.YtcjbnonjhahakaaDoorWTab
import Derived.Test.YtcjbnonjhahakaaDoorWFour
import Derived.Test.YtcjbnonjhahakaaDoorWQPut
import Derived.Test.YtcjbnonjhahakaaDoorWApart
import Derived.Test.YtcjbnonjhahakaaDoorWArr
import Derived.Test.YtcjbnonjhahakaaDoorWZeros
import Derived.Test.YtcjbnonjhahakaaDoorWFoot
import Derived.Test.YtcjbnonjhahakaaDoorWKept
import Derived.Test.YtcjbnonjhahakaaDoorWShare
import Derived.Test.YtcjbnonjhahakaaDoorWN
import Derived.Test.YtcjbnonjhahakaaDoorWFootNe
import Derived.Test.YtcjbnonjhahakaaDoorWAt
import Derived.Test.YtcjbnonjhahakaaDoorWEqStruct
import Derived.Test.YtcjbnonjhahakaaDoorWRepsOne
import Derived.Test.YtcjbnonjhahakaaDoorWInv
import Derived.Test.YtcjbnonjhahakaaDoorWInvWords
import Derived.Test.YtcjbnonjhahakaaDoorWGuard
import Derived.Test.YtcjbnonjhahakaaDoorWNEv
import Derived.Test.YtcjbnonjhahakaaDoorWMore
import Derived.Test.YtcjbnonjhahakaaDoorHandC
import Derived.Test.YtcjbnonjhahakaaDoorGoes
import Derived.ArgAppend
import Derived.Laws.AppendOwn
import Derived.Deep.RegionLawGrows
namespace Go.Proofs.YtcjbnonjhahakaaDoor.Hand
open Go.RowKit Go.Proofs.YtcjbnonjhahakaaDoorW.PrintWords Go.Proofs.YtcjbnonjhahakaaDoorW.PrintLast Go.Proofs.YtcjbnonjhahakaaDoorW.PrintMore
set_option linter.unusedVariables false
set_option linter.unusedSimpArgs false

/-! Selves: all words of some digits, one after the other. -/
open Go.Proofs.YtcjbnonjhahakaaDoor.Math Go.Proofs.YtcjbnonjhahakaaDoor.Goes
def selL : Nat → List UInt8 → List (List UInt8)
  | 0, x => if (says x).2 = 0 ∧ (says x).1 = x then [x] else []
  | m + 1, x => ([49, 50, 51, 52, 53, 54, 55, 56, 57] : List UInt8).flatMap fun d => selL m (x ++ [d])
def digs : List UInt8 := [49, 50, 51, 52, 53, 54, 55, 56, 57]
def n8 (x : List UInt8) : List Value := x.map fun b => Value.int .u8 (b.toNat : Int)
theorem n8_nums (x : List UInt8) : n8 x = nums .u8 (x.map fun b => (b.toNat : Int)) := by simp [n8, nums]
theorem own_R8 {w : World} {base n : Nat} {v : Value} {x : List UInt8} (h : w.ownsRow base 5 1 v n (n8 x)) (hl : x.length = n) : Kd.R (Kd.int .u8) 5 w base (fun _ => True) v (x.map fun b => (b.toNat : Int)) := by
  subst hl
  rw [n8_nums] at h
  refine ⟨fun _ _ => trivial, _, (by rw [List.length_map]; exact h), by simp [nums_length, Kd.int, Kd.scalar], fun j p hj => ?_⟩
  have hjl := (List.getElem?_eq_some_iff.1 hj)
  obtain ⟨h1, h2⟩ := hjl
  subst h2
  have h1' : j < x.length := by simpa using h1
  simp [Kd.int, Kd.scalar, nums, List.take_one, h1']
theorem own_RS {w : World} {base n : Nat} {v : Value} {l : List ByteArray} (h : w.ownsRow base 9 1 v n (l.map Value.string)) (hl : l.length = n) : Kd.R Kd.string 9 w base (fun _ => True) v l := by
  subst hl
  refine ⟨fun _ _ => trivial, _, h, by simp [Kd.string, Kd.scalar], fun j p hj => ?_⟩
  have hjl := (List.getElem?_eq_some_iff.1 hj)
  obtain ⟨h1, h2⟩ := hjl
  subst h2
  simp [Kd.string, Kd.scalar, List.take_one, h1]
theorem own_form8 {w : World} {base n : Nat} {v : Value} {x : List UInt8} (h : w.ownsRow base 5 1 v n (n8 x)) (hl : x.length = n) :
    ∃ A c, v = .slice A n c ∧ n ≤ c ∧ Kd.C (Kd.int .u8) w A n (x.map fun b => (b.toNat : Int)) ∧ (A = none → n = 0 ∧ c = 0) ∧ (∀ b, A = some b → ∀ j u, (n8 x)[j]? = some u → w.cell? (b.add j) = some u) := by
  subst hl
  have hR := own_R8 h rfl
  rcases h.2 with ⟨rfl, h0⟩ | ⟨g, cap, cur, rfl, hg, hh, hn, hm, hcur, ht⟩
  · have hx : x = [] := List.eq_nil_of_length_eq_zero h0
    subst hx
    refine ⟨none, 0, rfl, Nat.le_refl _, ?_, fun _ => ⟨rfl, rfl⟩, fun b hb => by cases hb⟩
    have := (Kd.R_reads' hR).2.2
    rwa [List.length_map] at this
  · refine ⟨some ⟨g, 0, none⟩, cap, rfl, hn, ?_, fun hb => (by cases hb), fun b hb j u hj => ?_⟩
    · have := (Kd.R_reads' hR).2.2
      rwa [List.length_map] at this
    · cases hb
      have hj2 := hj
      rw [← ht, Nat.mul_one, List.getElem?_take] at hj2
      split at hj2
      · rw [Addr.add_lit]
        simp only [World.cell?, hh]
        simpa using hj2
      · cases hj2
/-- What the closure's world holds: three cells of its maker, and the list so far. -/
structure SelSt (w0 : World) (long : Int) (w : World) (v : Value) (l : List ByteArray) : Prop where
  below : Below w0.heap.size w0 w
  b0 : w.heap[w0.heap.size]? = some (.cells #[.int .i64 long] 3)
  b1 : w.heap[w0.heap.size + 1]? = some (.cells #[v] 32)
  b2 : w.heap[w0.heap.size + 2]? = some (.cells #[.func (.func 53) #[] #[.pointer (some ⟨w0.heap.size, 0, none⟩), .pointer (some ⟨w0.heap.size + 1, 0, none⟩), .pointer (some ⟨w0.heap.size + 2, 0, none⟩)]] 56)
  own : w.ownsRow (w0.heap.size + 3) 9 1 v l.length (l.map Value.string)
structure SelKp (B : Nat) (w : World) (v : Value) (w' : World) (v' : Value) : Prop where
  size : w.heap.size ≤ w'.heap.size
  block : ∀ j, j < w.heap.size → j ≠ B + 1 → v.ownBlock ≠ some j → w'.heap[j]? = w.heap[j]?
  own : v'.ownBlock = v.ownBlock ∨ ∀ j, v'.ownBlock = some j → w.heap.size ≤ j
theorem SelSt.keep {w0 w w' : World} {long : Int} {v : Value} {l : List ByteArray} (h : SelSt w0 long w v l) (hb : Below w.heap.size w w') : SelSt w0 long w' v l where
  below := h.below.trans (hb.mono h.below.size)
  b0 := (hb.5 _ (Array.getElem?_eq_some_iff.1 h.b0).1).trans h.b0
  b1 := (hb.5 _ (Array.getElem?_eq_some_iff.1 h.b1).1).trans h.b1
  b2 := (hb.5 _ (Array.getElem?_eq_some_iff.1 h.b2).1).trans h.b2
  own := pw_own_below h.own hb
theorem SelKp.refl (B : Nat) (w : World) (v : Value) : SelKp B w v w v := ⟨Nat.le_refl _, fun _ _ _ _ => rfl, .inl rfl⟩
theorem SelKp.trans {B : Nat} {w w1 w2 : World} {v v1 v2 : Value} (h : SelKp B w v w1 v1) (k : SelKp B w1 v1 w2 v2) : SelKp B w v w2 v2 where
  size := Nat.le_trans h.size k.size
  block := fun j hj hn ho => by
    have := h.size
    refine (k.block j (by omega) hn fun e => ?_).trans (h.block j hj hn ho)
    rcases h.own with e1 | e1
    · exact ho (e1 ▸ e)
    · have := e1 j e; omega
  own := by
    rcases k.own with e2 | e2
    · rw [e2]; exact h.own
    · exact .inr fun j hj => Nat.le_trans h.size (e2 j hj)
theorem SelKp.below {B : Nat} {w w1 : World} (v : Value) (hb : Below w.heap.size w w1) : SelKp B w v w1 v := ⟨hb.size, fun j hj _ _ => hb.5 j hj, .inl rfl⟩
theorem SelSt.grown_block {w0 w1 w4 : World} {long : Int} {v : Value} {l : List ByteArray} {o : Obj} (h : SelSt w0 long w1 v l) (hg : (w1.alloc o).grownBy w4 v.ownBlock) (j : Nat) (hj : j < w1.heap.size) (hlt : j < w0.heap.size + 3) : w4.heap[j]? = w1.heap[j]? := by
  refine (hg.block j (by simp; omega) fun e => ?_).trans (Below.heap_alloc _ _ _ hj)
  have := own_base h.own j e.symm
  omega
theorem SelSt.store {w0 w1 w4 : World} {long : Int} {v v4 : Value} {l : List ByteArray} {o : Obj} {s : ByteArray} (h : SelSt w0 long w1 v l) (hg : (w1.alloc o).grownBy w4 v.ownBlock)
    (hown : w4.ownsRow (w0.heap.size + 3) 9 1 v4 (l.length + 1) (l.map Value.string ++ [.string s])) (hat : v.ownBlock = v4.ownBlock ∨ v4.ownBlock = some (w1.heap.size + 1)) :
    SelSt w0 long (w4.setCell ⟨w0.heap.size + 1, 0, none⟩ v4) v4 (l ++ [s]) ∧ SelKp w0.heap.size w1 v (w4.setCell ⟨w0.heap.size + 1, 0, none⟩ v4) v4 := by
  have hs2 := (Array.getElem?_eq_some_iff.1 h.b2).1
  have e0 := h.grown_block hg (w0.heap.size) (by omega) (by omega)
  have e1 := h.grown_block hg (w0.heap.size + 1) (by omega) (by omega)
  have e2 := h.grown_block hg (w0.heap.size + 2) (by omega) (by omega)
  have hB4 : Below w0.heap.size w0 w4 := pw_below_grown (below_alloc h.below o) _ (by simp; omega) hg (fun k hk => by have := own_base h.own k hk; omega)
  have hsz := hg.size
  have hsz1 : (w1.alloc o).heap.size = w1.heap.size + 1 := by simp
  refine ⟨⟨hB4.setCell (by show w0.heap.size ≤ w0.heap.size + 1; omega) _, ?_, ?_, ?_, ?_⟩, ⟨?_, ?_, ?_⟩⟩
  · rw [Below.heap_setCell _ _ _ _ (by show w0.heap.size ≠ w0.heap.size + 1; omega), e0]; exact h.b0
  · have := heap_setCell_same w4 (w0.heap.size + 1) 0 #[v] 32 v4 (e1.trans h.b1)
    rw [this]; rfl
  · rw [Below.heap_setCell _ _ _ _ (by show w0.heap.size + 2 ≠ w0.heap.size + 1; omega), e2]; exact h.b2
  · rw [List.length_append, List.map_append]
    refine own_setCell hown (fun e => ?_) _
    have := own_base hown _ e.symm
    change w0.heap.size + 3 ≤ w0.heap.size + 1 at this
    omega
  · rw [World.size_setCell]; omega
  · intro j hj hn ho
    rw [Below.heap_setCell _ _ _ _ hn]
    exact (hg.block j (by omega) (fun e => ho e.symm)).trans (Below.heap_alloc _ _ _ hj)
  · rcases hat with e | e
    · exact .inl e.symm
    · refine .inr fun j hj => ?_
      rw [e] at hj
      cases hj
      omega
theorem flatMap_le {α β : Type} (f : α → List β) (n : Nat) : ∀ (l : List α), (∀ a ∈ l, (f a).length ≤ n) → (l.flatMap f).length ≤ l.length * n
  | [], _ => by simp
  | a :: l, h => by
    have h1 := h a (by simp)
    have h2 := flatMap_le f n l (fun b hb => h b (by simp [hb]))
    rw [List.flatMap_cons, List.length_append, List.length_cons, Nat.succ_mul]
    omega
theorem selL_le : ∀ (m : Nat) (x : List UInt8), (selL m x).length ≤ 9 ^ m
  | 0, x => by unfold selL; split <;> simp
  | m + 1, x => by
    unfold selL
    have := flatMap_le (fun d => selL m (x ++ [d])) (9 ^ m) [49, 50, 51, 52, 53, 54, 55, 56, 57] (fun d _ => selL_le m _)
    rw [Nat.pow_succ]
    simp only [List.length_cons, List.length_nil] at this
    omega
theorem digs_get (i : Nat) (hi : i < 9) : ∃ d : UInt8, digs[i]? = some d ∧ (d.toNat : Int) = 49 + (i : Int) ∧ isDig d = true := by
  match i, hi with
  | 0, _ => exact ⟨49, rfl, rfl, rfl⟩
  | 1, _ => exact ⟨50, rfl, rfl, rfl⟩
  | 2, _ => exact ⟨51, rfl, rfl, rfl⟩
  | 3, _ => exact ⟨52, rfl, rfl, rfl⟩
  | 4, _ => exact ⟨53, rfl, rfl, rfl⟩
  | 5, _ => exact ⟨54, rfl, rfl, rfl⟩
  | 6, _ => exact ⟨55, rfl, rfl, rfl⟩
  | 7, _ => exact ⟨56, rfl, rfl, rfl⟩
  | 8, _ => exact ⟨57, rfl, rfl, rfl⟩
set_option maxHeartbeats 1000000 in
set_option maxRecDepth 100000 in
theorem selves1 (w0 : World) (hO : Ops w0) (long : Nat) (hlong : long ≤ 6) (m : Nat) : ∀ (x : List UInt8) (vx : Value) (p : Option Addr) (c : Nat) (l : List ByteArray) (v : Value) (w : World), m + x.length = long → x.all isDig = true → l.length + 9 ^ m ≤ 600000 → SelSt w0 long w v l →
    vx = .slice p x.length c → w.ownsRow (w0.heap.size + 3) 5 1 vx x.length (n8 x) → (∀ j, vx.ownBlock = some j → v.ownBlock ≠ some j) →
    Calls Tryd.prog 53 #[.slice p x.length c, .pointer (some ⟨w0.heap.size, 0, none⟩), .pointer (some ⟨w0.heap.size + 1, 0, none⟩), .pointer (some ⟨w0.heap.size + 2, 0, none⟩)] w fun e w' => e = .returned (.tuple #[]) ∧ ∃ v', SelSt w0 long w' v' (l ++ (selL m x).map B) ∧ SelKp w0.heap.size w v w' v' := by
  induction m with
  | zero =>
    intro x vx p c l v w hm hx hl9 hS hvx hX hne
    subst hvx
    obtain ⟨A, c', he, hc, hC, hnil, hcells⟩ := own_form8 hX rfl
    cases he
    have hlen : (x.length : Int) = (long : Int) := by omega
    have hcv := Kd.C_string (P := Tryd.prog) (c := c) Tryd.underlying57 Tryd.underlying5 Tryd.underlying9 hC
    rw [strOfNums_B] at hcv
    have hc0 : w.cell? ⟨w0.heap.size, 0, none⟩ = some (.int .i64 (long : Int)) := by simp only [World.cell?, hS.b0]; rfl
    have hmd := fun w h => parrot_made.calls (B x) (B (says x).1) (says x).2 w h (by unfold parrot_made.f; rw [L_B, if_pos ⟨hx, by rw [B_size]; omega⟩])
    have HS := Aside0.mk hS
    have HC := Aside0.mk hC
    clear hC hS hX hcells hnil
    have hl63 : l.length ≤ 600000 := by omega
    have hi9 : Tryd.prog.underlying 32 = some (.slice 9) := Tryd.underlying32
    have info9 : (Tryd.prog.info? 9).map (fun i => (i.zero, i.size, i.bytes)) = some (some (.string ByteArray.empty), 1, 16) := by kernel_rfl
    obtain ⟨i0, hi, hz0, hz1, hz2⟩ := info_parts info9
    by_cases h0 : (says x).2 = 0
    · by_cases h1 : (says x).1 = x
      · have hsel : selL 0 x = [x] := by unfold selL; rw [if_pos ⟨h0, h1⟩]
        rw [hsel]
        rw [h0, h1] at hmd
        go_enter Tryd.func53, Tryd.ntmps53
        go_wp2_with (first | (go_at_call 41; refine (hmd _ (hO.below HS.out.below)).mono ?_; rintro e w1 ⟨rfl, hb⟩; have hcv1 := Kd.C_string (P := Tryd.prog) (c := c) Tryd.underlying57 Tryd.underlying5 Tryd.underlying9 (Kd.C_below HC.out hb); rw [strOfNums_B] at hcv1; have HS1 := Aside0.mk (HS.out.keep hb); have hc1 : w1.cell? ⟨w0.heap.size + 1, 0, none⟩ = some v := (by simp only [World.cell?, HS1.out.b1]; rfl); have HK1 := Aside0.mk (SelKp.below (B := w0.heap.size) v hb); clear hb HS HC hcv hmd hc0 hne) | (at_builtin; refine wpList_append_lies _ rfl _ _ 32 rfl (w0.heap.size + 3) 9 i0 (.string ByteArray.empty) 1 16 Tryd.underlying32 hi hz0 hz1 hz2 rfl (by decide) _ _ _ rfl (HS1.out.own.alloc _) ⟨w1.heap.size, 0, none⟩ 1 1 [.string (B x)] rfl rfl ?c1 ?c2 (by decide) ?c3 ?c4 ?c5 (w1.heap.size + 1) (by simp) ?_))
        case c1 => exact cell_one_new _ _ _
        case c2 => intro u hu; simp at hu; subst hu; rfl
        case c3 => unfold maxLen; omega
        case c4 => omega
        case c5 => have := (Array.getElem?_eq_some_iff.1 HS1.out.b2).1; simp; omega
        intro g cap w4 hown4 hgrow4 hat4 hlt4
        have hb14 : w4.heap[w0.heap.size + 1]? = some (.cells #[v] 32) := (HS1.out.grown_block hgrow4 _ (Array.getElem?_eq_some_iff.1 HS1.out.b1).1 (by omega)).trans HS1.out.b1
        have HR := Aside0.mk (HS1.out.store hgrow4 hown4 (hat4.imp id (fun e => by rw [e]; rfl)))
        have hc4 : w4.cell? ⟨w0.heap.size + 1, 0, none⟩ = some v := by simp only [World.cell?, hb14]; rfl
        have hf4 : w4.frozen? ⟨w0.heap.size + 1, 0, none⟩ = false := by simp only [World.frozen?, hb14]; rfl
        clear hown4 hgrow4 hat4
        go_wp2
        ((try simp only [Exit.inBlock, Exit.then]); refine bodyPost_ret (results_none rfl _ _ _) rfl ?_)
        exact ⟨rfl, _, HR.out.1, HK1.out.trans HR.out.2⟩
      · have hsel : selL 0 x = [] := by unfold selL; rw [if_neg (fun h => h1 h.2)]
        rw [hsel]
        rw [h0] at hmd
        have hne1 : ((B (says x).1).toList == (B x).toList) = false := beq_eq_false_iff_ne.2 (fun e => h1 (by rw [ByteArray.toList_eq, ByteArray.toList_eq] at e; simpa [B] using e))
        go_enter Tryd.func53, Tryd.ntmps53
        go_wp2_with (first | (go_at_call 41; refine (hmd _ (hO.below HS.out.below)).mono ?_; rintro e w1 ⟨rfl, hb⟩; have hcv1 := Kd.C_string (P := Tryd.prog) (c := c) Tryd.underlying57 Tryd.underlying5 Tryd.underlying9 (Kd.C_below HC.out hb); rw [strOfNums_B] at hcv1))
        ((try simp only [Exit.inBlock, Exit.then]); refine bodyPost_ret (results_none rfl _ _ _) rfl ?_)
        rw [List.map_nil, List.append_nil]
        exact ⟨rfl, v, HS.out.keep hb, SelKp.below v hb⟩
    · have hsel : selL 0 x = [] := by unfold selL; rw [if_neg (fun h => h0 h.1)]
      rw [hsel]
      have hb0 : ((says x).2 == 0) = false := beq_eq_false_iff_ne.2 h0
      go_enter Tryd.func53, Tryd.ntmps53
      go_wp2_with (first | (go_at_call 41; refine (hmd _ (hO.below HS.out.below)).mono ?_; rintro e w1 ⟨rfl, hb⟩))
      ((try simp only [Exit.inBlock, Exit.then]); refine bodyPost_ret (results_none rfl _ _ _) rfl ?_)
      rw [List.map_nil, List.append_nil]
      exact ⟨rfl, v, HS.out.keep hb, SelKp.below v hb⟩
  | succ m ih =>
    intro x vx p c l v w hm hx hl9 hS hvx hX hne
    subst hvx
    have h9 : l.length + 9 * 9 ^ m ≤ 600000 := by rw [Nat.pow_succ] at hl9; omega
    clear hl9
    have hlen : ((x.length : Int) == (long : Int)) = false := beq_eq_false_iff_ne.2 (by omega)
    have hc0 : w.cell? ⟨w0.heap.size, 0, none⟩ = some (.int .i64 (long : Int)) := by simp only [World.cell?, hS.b0]; rfl
    have info5 : (Tryd.prog.info? 5).map (fun i => (i.zero, i.size, i.bytes)) = some (some (.int .u8 0), 1, 1) := by kernel_rfl
    obtain ⟨i0, hi, hz0, hz1, hz2⟩ := info_parts info5
    have HS := Aside0.mk hS
    have HX := Aside0.mk hX
    clear hS hX
    go_enter Tryd.func53, Tryd.ntmps53
    go_wp2
    go_loopg [7] 9 (fun q v7 wr => ∃ (i : Nat) (v1 : Value), v7 = .int .u8 (49 + (i : Int)) ∧ i + q = 9 ∧ Aside0 (SelSt w0 long wr v1 (l ++ ((digs.take i).flatMap fun d => selL m (x ++ [d])).map B)) ∧ Aside0 (SelKp w0.heap.size w v wr v1))
    case atStart => exact ⟨0, v, rfl, rfl, ⟨by simpa using HS.out⟩, ⟨SelKp.refl _ _ _⟩⟩
    case round =>
      obtain ⟨i, v1, rfl, hiq, HS1, HK1⟩ := hrel
      by_cases hq : gk = 0
      · subst hq
        obtain rfl : i = 9 := by omega
        have hd : decide ((49 : Int) + ((9 : Nat) : Int) ≤ 57) = false := by decide
        go_wp2
        ((try simp only [Exit.inBlock, Exit.then]); refine bodyPost_end (results_none rfl _ _ _) rfl ?_)
        exact ⟨rfl, v1, HS1.out, HK1.out⟩
      · obtain ⟨q, rfl⟩ : ∃ q, gk = q + 1 := ⟨gk - 1, by omega⟩
        have hd : (49 : Int) + (i : Int) ≤ 57 := by omega
        have hcn : wr.cell? ⟨w0.heap.size + 2, 0, none⟩ = some (.func (.func 53) #[] #[.pointer (some ⟨w0.heap.size, 0, none⟩), .pointer (some ⟨w0.heap.size + 1, 0, none⟩), .pointer (some ⟨w0.heap.size + 2, 0, none⟩)]) := by simp only [World.cell?, HS1.out.b2]; rfl
        obtain ⟨d, hdi, hdn, hdd⟩ := digs_get i (by omega)
        have htk : digs.take (i + 1) = digs.take i ++ [d] := by rw [List.take_add_one, hdi]; rfl
        have hfl : (((digs.take i).flatMap fun d => selL m (x ++ [d])).map B).length ≤ i * 9 ^ m := by
          rw [List.length_map]
          refine Nat.le_trans (flatMap_le _ (9 ^ m) _ (fun d _ => selL_le m _)) (Nat.mul_le_mul_right _ ?_)
          rw [List.length_take]; exact Nat.min_le_left _ _
        have hfl2 : i * 9 ^ m + 9 ^ m ≤ 9 * 9 ^ m := by rw [← Nat.succ_mul]; exact Nat.mul_le_mul_right _ (by omega)
        have hstep : ∀ (W w2 : World) (v2 : Value), Below wr.heap.size wr W → w2.ownsRow W.heap.size 5 1 v2 (x.length + 1) (n8 x ++ [.int .u8 (49 + (i : Int))]) → W.grownBy w2 none →
            Calls Tryd.prog 53 #[v2, .pointer (some ⟨w0.heap.size, 0, none⟩), .pointer (some ⟨w0.heap.size + 1, 0, none⟩), .pointer (some ⟨w0.heap.size + 2, 0, none⟩)] w2 fun e w' => e = .returned (.tuple #[]) ∧ ∃ v', Aside0 (SelSt w0 long w' v' (l ++ ((digs.take (i + 1)).flatMap fun d => selL m (x ++ [d])).map B)) ∧ Aside0 (SelKp w0.heap.size w v w' v') := by
          intro W w2 v2 hbW hown2 hgrow2
          have e1 : n8 x ++ [Value.int .u8 (49 + (i : Int))] = n8 (x ++ [d]) := by rw [← hdn]; simp [n8]
          rw [e1] at hown2
          have e2 : (x ++ [d]).length = x.length + 1 := by simp
          obtain ⟨A, c', rfl, hc', _⟩ := own_form8 hown2 e2
          have hb2 : Below wr.heap.size wr w2 := pw_below_grown hbW none hbW.size hgrow2 (fun k hk => by cases hk)
          have hsz := hbW.size
          have hs3 := (Array.getElem?_eq_some_iff.1 HS1.out.b2).1
          have := ih (x ++ [d]) (.slice A (x ++ [d]).length c') A c' _ v1 w2 (by rw [e2]; omega) (by rw [List.all_append, hx]; simp [hdd]) (by rw [List.length_append]; omega) (HS1.out.keep hb2) rfl
            (by rw [e2]; exact own_less hown2 (by omega)) (fun j hj e => by
              obtain ⟨cells, hh⟩ := own_typed HS1.out.own j e
              have h1 := (Array.getElem?_eq_some_iff.1 hh).1
              have h2 := own_base hown2 j (by rw [← e2]; exact hj)
              omega)
          rw [e2] at this
          refine this.mono ?_
          rintro e w3 ⟨rfl, v3, hS3, hK3⟩
          refine ⟨rfl, v3, ⟨?_⟩, ⟨HK1.out.trans ((SelKp.below v1 hb2).trans hK3)⟩⟩
          rw [htk, List.flatMap_append, List.map_append, ← List.append_assoc]
          simpa using hS3
        clear hfl hfl2 htk hdi hdn hdd ih
        have hw1 : IntKind.u8.wrap (49 + (i : Int) + 1) = 49 + ((i + 1 : Nat) : Int) := by
          show (49 + (i : Int) + 1) % 256 = _
          omega
        have hXr := own_move HX.out (w1 := wr) (fun k hk => HK1.out.block k (by
            obtain ⟨cells, hh⟩ := own_typed HX.out k hk
            exact (Array.getElem?_eq_some_iff.1 hh).1) (by have := own_base HX.out k hk; omega) (hne k hk))
        obtain ⟨A, c', he, hc, hC, hnil, hcells⟩ := own_form8 hXr rfl
        cases he
        have hal : ∀ (o : Obj) (b : Addr), p = some b → ∀ j u, (n8 x)[j]? = some u → (wr.alloc o).cell? (b.add j) = some u := by
          intro o b hb j u hj
          have := hcells b hb j u hj
          rw [← this]
          refine World.cell?_of_block (Below.heap_alloc _ _ _ ?_)
          have := World.block_lt_of_cell? wr _ this
          exact this
        have HA := Aside0.mk hal
        have hx63 : x.length + 1 ≤ maxLen := by unfold maxLen; omega
        have hcap : (x.length + 1) * 1 ≤ 140737488355328 := by omega
        have HSTEP := Aside0.mk hstep
        have hln : (n8 x).length = x.length * 1 := by simp [n8]
        have hone : ∀ (u : Value), u ∈ [Value.int .u8 (49 + (i : Int))] → u.oneCell' = true := by intro u hu; simp at hu; subst hu; rfl
        have hnew : ∀ (o : Obj), o = .cells #[.int .u8 (49 + (i : Int))] 5 → ∀ j u, [Value.int .u8 (49 + (i : Int))][j]? = some u → (wr.alloc o).cell? ((⟨wr.heap.size, 0, none⟩ : Addr).add j) = some u := by rintro o rfl; exact cell_one_new _ _ _
        have HN := Aside0.mk hnew
        have HBa : ∀ (o : Obj), Below wr.heap.size wr (wr.alloc o) := fun o => below_alloc (Below.refl _ _) o
        have HBA := Aside0.mk HBa
        have hs2 := (Array.getElem?_eq_some_iff.1 HS1.out.b2).1
        have hcn2 : ∀ o : Obj, (wr.alloc o).cell? ⟨w0.heap.size + 2, 0, none⟩ = some (.func (.func 53) #[] #[.pointer (some ⟨w0.heap.size, 0, none⟩), .pointer (some ⟨w0.heap.size + 1, 0, none⟩), .pointer (some ⟨w0.heap.size + 2, 0, none⟩)]) := fun o => (World.cell?_of_block (Below.heap_alloc _ _ _ hs2)).trans hcn
        have hcn3 : ∀ (W w2 : World), Below wr.heap.size wr W → W.grownBy w2 none → w2.cell? ⟨w0.heap.size + 2, 0, none⟩ = some (.func (.func 53) #[] #[.pointer (some ⟨w0.heap.size, 0, none⟩), .pointer (some ⟨w0.heap.size + 1, 0, none⟩), .pointer (some ⟨w0.heap.size + 2, 0, none⟩)]) := fun W w2 hb hg => (World.cell?_of_block ((hg.block _ (Nat.lt_of_lt_of_le hs2 hb.size) (fun e => by cases e)).trans (hb.5 _ hs2))).trans hcn
        have HCN := Aside0.mk hcn3
        clear hcells hC hXr hal hstep hnew HBa hcn3
        cases p with
        | none =>
          obtain ⟨hx0, rfl⟩ := hnil rfl
          obtain rfl : x = [] := List.eq_nil_of_length_eq_zero hx0
          clear hx0 hnil
          go_wp2
          go_region_law (first | (refine step_append_grows rfl (.tmp 40) (.tmp 42) 57 rfl 5 i0 (.int .u8 0) 1 1 Tryd.underlying57 hi hz0 hz1 hz2 rfl (by decide) none 0 0 (n8 []) (by simp [Act.eval, Act.put]) (fun h => ⟨rfl, rfl⟩) rfl (fun b hb => by cases hb) ⟨wr.heap.size, 0, none⟩ 1 1 [.int .u8 (49 + (i : Int))] (by simp [Act.eval, Act.put]) rfl (HN.out _ rfl) hone (by decide) (by decide) (by decide) ?_; intro v2 w2 hown2 hgrow2; have hcn4 := HCN.out _ _ (by first | exact HBA.out _ | exact below_drew (HBA.out _)) hgrow2; have hb4 := Aside0.mk (hown2); have hg4 := Aside0.mk hgrow2; clear hown2 hgrow2) | (go_simp; go_at_call 53; refine (HSTEP.out _ _ _ (by first | exact HBA.out _ | exact below_drew (HBA.out _)) hb4.out hg4.out).mono ?_; rintro e w3 ⟨rfl, v3, HS3, HK3⟩))
          all_goals go_wp2
          all_goals (go_roundg q <;> first | exact ⟨i + 1, v3, by go_num, by omega, HS3, HK3⟩ | omega)
        | some b =>
          go_wp2
          go_region_law (first | (refine step_append_grows rfl (.tmp 40) (.tmp 42) 57 rfl 5 i0 (.int .u8 0) 1 1 Tryd.underlying57 hi hz0 hz1 hz2 rfl (by decide) (some b) x.length x.length (n8 x) (by simp [Act.eval, Act.put]) (fun h => by cases h) hln (HA.out _) ⟨wr.heap.size, 0, none⟩ 1 1 [.int .u8 (49 + (i : Int))] (by simp [Act.eval, Act.put]) rfl (HN.out _ rfl) hone (Nat.lt_succ_self _) hx63 hcap ?_; intro v2 w2 hown2 hgrow2; have hcn4 := HCN.out _ _ (by first | exact HBA.out _ | exact below_drew (HBA.out _)) hgrow2; have hb4 := Aside0.mk (hown2); have hg4 := Aside0.mk hgrow2; clear hown2 hgrow2) | (go_simp; go_at_call 53; refine (HSTEP.out _ _ _ (by first | exact HBA.out _ | exact below_drew (HBA.out _)) hb4.out hg4.out).mono ?_; rintro e w3 ⟨rfl, v3, HS3, HK3⟩))
          all_goals go_wp2
          all_goals (go_roundg q <;> first | exact ⟨i + 1, v3, by go_num, by omega, HS3, HK3⟩ | omega)
def parrot_Selves.f (a0 : Int) : Option (List ByteArray × Int) := if a0 < 1 ∨ a0 > 6 then some ([], 4) else some ((selL a0.toNat []).map B, 0)
theorem SelSt.start (w : World) (long : Int) : SelSt w long (((w.alloc (.cells #[.int .i64 long] 3)).alloc (.cells #[.slice none 0 0] 32)).alloc (.cells #[.func (.func 53) #[] #[.pointer (some ⟨w.heap.size, 0, none⟩), .pointer (some ⟨w.heap.size + 1, 0, none⟩), .pointer (some ⟨w.heap.size + 1 + 1, 0, none⟩)]] 56)) (.slice none 0 0) [] := by
  have e1 : (w.alloc (.cells #[.int .i64 long] 3)).heap.size = w.heap.size + 1 := by simp
  have e2 : ((w.alloc (.cells #[.int .i64 long] 3)).alloc (.cells #[.slice none 0 0] 32)).heap.size = w.heap.size + 1 + 1 := by simp
  have n0 := heap_alloc_new w (.cells #[.int .i64 long] 3)
  have n1 := heap_alloc_new (w.alloc (.cells #[.int .i64 long] 3)) (.cells #[.slice none 0 0] 32)
  have n2 := heap_alloc_new ((w.alloc (.cells #[.int .i64 long] 3)).alloc (.cells #[.slice none 0 0] 32)) (.cells #[.func (.func 53) #[] #[.pointer (some ⟨w.heap.size, 0, none⟩), .pointer (some ⟨w.heap.size + 1, 0, none⟩), .pointer (some ⟨w.heap.size + 1 + 1, 0, none⟩)]] 56)
  rw [e1] at n1
  rw [e2] at n2
  refine ⟨below_alloc (below_alloc (below_alloc (Below.refl _ _) _) _) _, ?_, ?_, n2, own_nil _ _ _ _⟩
  · rw [Below.heap_alloc _ _ _ (by omega), Below.heap_alloc _ _ _ (by omega)]
    exact n0
  · rw [Below.heap_alloc _ _ _ (by omega)]
    exact n1
set_option maxHeartbeats 1000000 in
set_option maxRecDepth 100000 in
theorem parrot_Selves.calls (a0 : Int) (r1 : List ByteArray) (r2 : Int) (w : World) (hO : Ops w) (h : parrot_Selves.f a0 = some (r1, r2)) :
    Calls Tryd.prog 33 #[.int .i64 a0] w fun e w' => ∃ v0_ : Value, e = .returned (.tuple #[v0_, .int .i64 r2]) ∧ Kd.R Kd.string 9 w' w.heap.size (fun _ => True) v0_ r1 ∧ Below w.heap.size w w' := by
  unfold parrot_Selves.f at h
  by_cases c : a0 < 1 ∨ a0 > 6
  · rw [if_pos c] at h
    simp only [Option.some.injEq, Prod.mk.injEq] at h
    obtain ⟨rfl, rfl⟩ := h
    rcases c with c | c
    · go_enter Tryd.func33, Tryd.ntmps33
      go_wp2
      go_ret2
      exact ⟨_, rfl, Kd.R_nil _ _ _ _ _, below_alloc (Below.refl _ _) _⟩
    · have c2 : ¬ a0 < 1 := by omega
      go_enter Tryd.func33, Tryd.ntmps33
      go_wp2
      go_ret2
      exact ⟨_, rfl, Kd.R_nil _ _ _ _ _, below_alloc (Below.refl _ _) _⟩
  · rw [if_neg c] at h
    simp only [Option.some.injEq, Prod.mk.injEq] at h
    obtain ⟨rfl, rfl⟩ := h
    have c1 : ¬ a0 < 1 := fun q => c (.inl q)
    have c2 : ¬ a0 > 6 := fun q => c (.inr q)
    clear c
    obtain ⟨n, rfl⟩ : ∃ n : Nat, a0 = (n : Int) := ⟨a0.toNat, by omega⟩
    rw [Int.toNat_natCast]
    go_enter Tryd.func33, Tryd.ntmps33
    go_wp2_with (go_at_call 53; go_loud (refine (selves1 w hO n (by omega) n [] (.slice none 0 0) none 0 [] (.slice none 0 0) _ rfl rfl (by have : 9 ^ n ≤ 9 ^ 6 := Nat.pow_le_pow_right (by decide) (by omega); simp only [List.length_nil]; omega) (SelSt.start w n) rfl (own_nil _ _ _ _) (fun j hj => by cases hj)).mono ?_; rintro e w1 ⟨rfl, v1, hS1, hK1⟩; have hc1 : w1.cell? ⟨w.heap.size + 1, 0, none⟩ = some v1 := (by simp only [World.cell?, hS1.b1]; rfl); have HS1 := Aside0.mk hS1; clear hS1 hK1))
    go_ret2
    rw [List.nil_append] at HS1
    exact ⟨_, rfl, own_RS (own_less HS1.out.own (by omega)) rfl, HS1.out.below⟩

end Go.Proofs.YtcjbnonjhahakaaDoor.Hand
