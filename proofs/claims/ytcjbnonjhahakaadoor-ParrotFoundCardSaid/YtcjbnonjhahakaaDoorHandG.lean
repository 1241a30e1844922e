import Derived.Test.YtcjbnonjhahakaaDoorProg
import Derived.Below
import Derived.Deep.Draws
import Derived.Deep.AppendLies
import Derived.Maps.AppendAt
import Derived.OwnWalk
import Derived.Laws.BytesArg
import Derived.Laws.MakeOwn
import Derived.Laws.OwnMore
import Derived.Deep.OwnRows
import Derived.Tactics
import Derived.Lib.ConvBytes
import Derived.Laws.Slices
import Derived.WalkKit
import Derived.KernelRfl
import Derived.RowKit3
import Derived.Deep.LoopGhost
import Derived.Deep.QuietTactic
import Derived.BigQuiet
import Derived.WideLaws
import Derived.Deep.DeepCutAuto
import Derived.Deep.CutBlock
import Derived.Deep.RegionHeld3
import Derived.Laws.Rows
import Derived.Lib.AppendStr
import Derived.ArgAppend
import Derived.Laws.IdiomCopy
import Derived.OrdersHeld
import Derived.Laws.BitsLemmas
import Derived.RowKit
import Derived.Test.YtcjbnonjhahakaaDoorWWords
import Derived.Test.YtcjbnonjhahakaaDoorWLast
import Derived.Test.YtcjbnonjhahakaaDoorWTab
import Derived.Test.YtcjbnonjhahakaaDoorWFour
import Derived.Test.YtcjbnonjhahakaaDoorWQPut
import Derived.Test.YtcjbnonjhahakaaDoorWApart
import Derived.Test.YtcjbnonjhahakaaDoorWArr
import Derived.Test.YtcjbnonjhahakaaDoorWZeros
import Derived.Test.YtcjbnonjhahakaaDoorWFoot
import Derived.Test.YtcjbnonjhahakaaDoorWKept
import Derived.Test.YtcjbnonjhahakaaDoorWShare
import Derived.Test.YtcjbnonjhahakaaDoorWN
import Derived.Test.YtcjbnonjhahakaaDoorWFootNe
import Derived.Test.YtcjbnonjhahakaaDoorWAt
import Derived.Test.YtcjbnonjhahakaaDoorWEqStruct
import Derived.Test.YtcjbnonjhahakaaDoorWRepsOne
import Derived.Test.YtcjbnonjhahakaaDoorWInv
import Derived.Test.YtcjbnonjhahakaaDoorWInvWords
import Derived.Test.YtcjbnonjhahakaaDoorWGuard
import Derived.Test.YtcjbnonjhahakaaDoorWNEv
import Derived.Test.YtcjbnonjhahakaaDoorWMore
import Derived.Test.YtcjbnonjhahakaaDoorHandF
import Derived.Test.YtcjbnonjhahakaaDoorBef1
import Derived.Test.YtcjbnonjhahakaaDoorMathQ
import Derived.Test.YtcjbnonjhahakaaDoorHandC
import Derived.Test.YtcjbnonjhahakaaDoorGoes
import Derived.ArgAppend
import Derived.Laws.AppendOwn
import Derived.Deep.RegionLawGrows
import Derived.Maps.RangeWalk
import Derived.WalkSmall
namespace Go.Proofs.YtcjbnonjhahakaaDoor.Hand
open Go.RowKit Go.Proofs.YtcjbnonjhahakaaDoorW.PrintWords Go.Proofs.YtcjbnonjhahakaaDoorW.PrintLast Go.Proofs.YtcjbnonjhahakaaDoorW.PrintMore
set_option linter.unusedVariables false
set_option linter.unusedSimpArgs false

/-! makers: what its closures' world holds; the closure that visits. -/
open Go.Maps Go.Proofs.YtcjbnonjhahakaaDoor.Math Go.Proofs.YtcjbnonjhahakaaDoor.Goes
structure MkSt (w0 : World) (cl cv : Nat) (long : Int) (w : World) (v : Value) (l : List ByteArray) : Prop where
  below : Below w0.heap.size w0 w
  lcl : w0.heap.size < cl ∧ cl < w0.heap.size + 4
  lcv : w0.heap.size < cv ∧ cv < w0.heap.size + 4
  b0 : w.heap[w0.heap.size]? = some (.cells #[v] 32)
  b1 : w.heap[cl]? = some (.cells #[.int .i64 long] 3)
  b2 : w.heap[cv]? = some (.cells #[.func (.func 56) #[] #[.pointer (some ⟨w0.heap.size, 0, none⟩)]] 60)
  b3 : w.heap[w0.heap.size + 3]? = some (.cells #[.func (.func 63) #[] #[.pointer (some ⟨cl, 0, none⟩), .pointer (some ⟨cv, 0, none⟩), .pointer (some ⟨w0.heap.size + 3, 0, none⟩)]] 66)
  own : w.ownsRow (w0.heap.size + 4) 9 1 v l.length (l.map Value.string)
structure MkKp (co : Nat) (w : World) (v : Value) (w' : World) (v' : Value) : Prop where
  size : w.heap.size ≤ w'.heap.size
  block : ∀ j, j < w.heap.size → j ≠ co → v.ownBlock ≠ some j → w'.heap[j]? = w.heap[j]?
  own : v'.ownBlock = v.ownBlock ∨ ∀ j, v'.ownBlock = some j → w.heap.size ≤ j
theorem MkSt.keep {w0 w w' : World} {cl cv : Nat} {long : Int} {v : Value} {l : List ByteArray} (h : MkSt w0 cl cv long w v l) (hb : Below w.heap.size w w') : MkSt w0 cl cv long w' v l where
  below := h.below.trans (hb.mono h.below.size)
  lcl := h.lcl
  lcv := h.lcv
  b0 := (hb.5 _ (Array.getElem?_eq_some_iff.1 h.b0).1).trans h.b0
  b1 := (hb.5 _ (Array.getElem?_eq_some_iff.1 h.b1).1).trans h.b1
  b2 := (hb.5 _ (Array.getElem?_eq_some_iff.1 h.b2).1).trans h.b2
  b3 := (hb.5 _ (Array.getElem?_eq_some_iff.1 h.b3).1).trans h.b3
  own := pw_own_below h.own hb
theorem MkKp.refl (B : Nat) (w : World) (v : Value) : MkKp B w v w v := ⟨Nat.le_refl _, fun _ _ _ _ => rfl, .inl rfl⟩
theorem MkKp.trans {B : Nat} {w w1 w2 : World} {v v1 v2 : Value} (h : MkKp B w v w1 v1) (k : MkKp B w1 v1 w2 v2) : MkKp B w v w2 v2 where
  size := Nat.le_trans h.size k.size
  block := fun j hj hn ho => by
    have := h.size
    refine (k.block j (by omega) hn fun e => ?_).trans (h.block j hj hn ho)
    rcases h.own with e1 | e1
    · exact ho (e1 ▸ e)
    · have := e1 j e; omega
  own := by
    rcases k.own with e2 | e2
    · rw [e2]; exact h.own
    · exact .inr fun j hj => Nat.le_trans h.size (e2 j hj)
theorem MkKp.below {B : Nat} {w w1 : World} (v : Value) (hb : Below w.heap.size w w1) : MkKp B w v w1 v := ⟨hb.size, fun j hj _ _ => hb.5 j hj, .inl rfl⟩
theorem MkSt.grown_block {w0 w1 w4 : World} {cl cv : Nat} {long : Int} {v : Value} {l : List ByteArray} {o : Obj} (h : MkSt w0 cl cv long w1 v l) (hg : (w1.alloc o).grownBy w4 v.ownBlock) (j : Nat) (hj : j < w1.heap.size) (hlt : j < w0.heap.size + 4) : w4.heap[j]? = w1.heap[j]? := by
  refine (hg.block j (by simp; omega) fun e => ?_).trans (Below.heap_alloc _ _ _ hj)
  have := own_base h.own j e.symm
  omega
theorem MkSt.store {w0 w1 w4 : World} {cl cv : Nat} {long : Int} {v v4 : Value} {l : List ByteArray} {o : Obj} {s : ByteArray} (h : MkSt w0 cl cv long w1 v l) (hg : (w1.alloc o).grownBy w4 v.ownBlock)
    (hown : w4.ownsRow (w0.heap.size + 4) 9 1 v4 (l.length + 1) (l.map Value.string ++ [.string s])) (hat : v.ownBlock = v4.ownBlock ∨ v4.ownBlock = some (w1.heap.size + 1)) :
    MkSt w0 cl cv long (w4.setCell ⟨w0.heap.size, 0, none⟩ v4) v4 (l ++ [s]) ∧ MkKp w0.heap.size w1 v (w4.setCell ⟨w0.heap.size, 0, none⟩ v4) v4 := by
  have hs3 := (Array.getElem?_eq_some_iff.1 h.b3).1
  have l1 := h.lcl
  have l2 := h.lcv
  have e0 := h.grown_block hg (w0.heap.size) (by omega) (by omega)
  have e1 := h.grown_block hg cl (by omega) (by omega)
  have e2 := h.grown_block hg cv (by omega) (by omega)
  have e3 := h.grown_block hg (w0.heap.size + 3) (by omega) (by omega)
  have hB4 : Below w0.heap.size w0 w4 := pw_below_grown (below_alloc h.below o) _ (by simp; omega) hg (fun k hk => by have := own_base h.own k hk; omega)
  have hsz := hg.size
  have hsz1 : (w1.alloc o).heap.size = w1.heap.size + 1 := by simp
  refine ⟨⟨hB4.setCell (Nat.le_refl _) _, l1, l2, ?_, ?_, ?_, ?_, ?_⟩, ⟨?_, ?_, ?_⟩⟩
  · have := heap_setCell_same w4 (w0.heap.size) 0 #[v] 32 v4 (e0.trans h.b0)
    rw [this]; rfl
  · rw [Below.heap_setCell _ _ _ _ (by show cl ≠ w0.heap.size; omega), e1]; exact h.b1
  · rw [Below.heap_setCell _ _ _ _ (by show cv ≠ w0.heap.size; omega), e2]; exact h.b2
  · rw [Below.heap_setCell _ _ _ _ (by show w0.heap.size + 3 ≠ w0.heap.size; omega), e3]; exact h.b3
  · rw [List.length_append, List.map_append]
    refine own_setCell hown (fun e => ?_) _
    have := own_base hown _ e.symm
    change w0.heap.size + 4 ≤ w0.heap.size at this
    omega
  · rw [World.size_setCell]; omega
  · intro j hj hn ho
    rw [Below.heap_setCell _ _ _ _ hn]
    exact (hg.block j (by omega) (fun e => ho e.symm)).trans (Below.heap_alloc _ _ _ hj)
  · rcases hat with e | e
    · exact .inl e.symm
    · refine .inr fun j hj => ?_
      rw [e] at hj
      cases hj
      omega
set_option maxHeartbeats 1000000 in
set_option maxRecDepth 100000 in
theorem visit1 (w0 : World) (cl cv : Nat) (long : Int) (m : ByteArray) (l : List ByteArray) (v : Value) (w : World) (hl : l.length + 1 ≤ 1000000000001) (hS : MkSt w0 cl cv long w v l) :
    Calls Tryd.prog 56 #[.string m, .pointer (some ⟨w0.heap.size, 0, none⟩)] w fun e w' => e = .returned (.tuple #[]) ∧ ∃ v', MkSt w0 cl cv long w' v' (l ++ [m]) ∧ MkKp w0.heap.size w v w' v' := by
  have hc1 : w.cell? ⟨w0.heap.size, 0, none⟩ = some v := by simp only [World.cell?, hS.b0]; rfl
  have info9 : (Tryd.prog.info? 9).map (fun i => (i.zero, i.size, i.bytes)) = some (some (.string ByteArray.empty), 1, 16) := by kernel_rfl
  obtain ⟨i0, hi, hz0, hz1, hz2⟩ := info_parts info9
  have HS1 := Aside0.mk hS
  clear hS
  go_enter Tryd.func56, Tryd.ntmps56
  go_wp2_with (at_builtin; refine wpList_append_lies _ rfl _ _ 32 rfl (w0.heap.size + 4) 9 i0 (.string ByteArray.empty) 1 16 Tryd.underlying32 hi hz0 hz1 hz2 rfl (by decide) _ _ _ rfl (HS1.out.own.alloc _) ⟨w.heap.size, 0, none⟩ 1 1 [.string m] rfl rfl ?c1 ?c2 (by decide) ?c3 ?c4 ?c5 (w.heap.size + 1) (by simp) ?_)
  case c1 => exact cell_one_new _ _ _
  case c2 => intro u hu; simp at hu; subst hu; rfl
  case c3 => unfold maxLen; omega
  case c4 => omega
  case c5 => have := (Array.getElem?_eq_some_iff.1 HS1.out.b3).1; simp; omega
  intro g cap w4 hown4 hgrow4 hat4 hlt4
  have hb14 : w4.heap[w0.heap.size]? = some (.cells #[v] 32) := (HS1.out.grown_block hgrow4 _ (Array.getElem?_eq_some_iff.1 HS1.out.b0).1 (by omega)).trans HS1.out.b0
  have HR := Aside0.mk (HS1.out.store hgrow4 hown4 (hat4.imp id (fun e => by rw [e]; rfl)))
  have hc4 : w4.cell? ⟨w0.heap.size, 0, none⟩ = some v := by simp only [World.cell?, hb14]; rfl
  have hf4 : w4.frozen? ⟨w0.heap.size, 0, none⟩ = false := by simp only [World.frozen?, hb14]; rfl
  clear hown4 hgrow4 hat4
  go_wp2
  ((try simp only [Exit.inBlock, Exit.then]); refine bodyPost_end (results_none rfl _ _ _) rfl ?_)
  exact ⟨rfl, _, HR.out.1, HR.out.2⟩
/-! The words from which a word can result: what the five functions of the table return. -/
open Go.Maps Go.Proofs.YtcjbnonjhahakaaDoor.Math Go.Proofs.YtcjbnonjhahakaaDoor.Goes Go.Proofs.YtcjbnonjhahakaaDoor.Bef
theorem wq {n : Int} (h : -9223372036854775808 ≤ n ∧ n ≤ 9223372036854775807) : wrap64 n = n := by unfold wrap64; omega
theorem bt_B (x : List UInt8) (i : Nat) (h : i < x.length) : bt (B x) (i : Int) = ((x[i]'h).toNat : Int) := by
  have hs : i < (B x).size := h
  simp [bt, hs]
  rfl
theorem B_take (x : List UInt8) (i : Nat) (h : i ≤ x.length) : (B x).extract 0 i = B (x.take i) := B_of (by rw [L_extract, List.drop_zero, L_B])
theorem B_drop (x : List UInt8) (i : Nat) : (B x).extract i (B x).size = B (x.drop i) := B_of (by rw [L_extract, B_size, L_B, List.take_length])
theorem toL (s : ByteArray) : s.toList = L s := ByteArray.toList_eq s
theorem f3_is (x : List UInt8) (hl : x.length ≤ 100000) : parrot_operations_3.f (B x) = some ((befores 51 x).map B) := by
  rw [bef_51]
  unfold parrot_operations_3.f
  rw [B_size]
  have e0 : wrap64 ((x.length : Int) / 2) = ((x.length / 2 : Nat) : Int) := by rw [wq (by omega)]; omega
  have e1 : wrap64 (((x.length / 2 : Nat) : Int) + 1) = ((x.length / 2 + 1 : Nat) : Int) := by rw [wq (by omega)]; omega
  rw [e0, e1]
  by_cases c1 : x.length > 2
  · rw [if_pos (by omega)]
    by_cases c2 : x.length % 2 = 1
    · have hlt : x.length / 2 < x.length := by omega
      rw [if_pos (by omega), if_pos (by omega), if_pos (by omega), bt_B x _ hlt]
      by_cases c3 : x[x.length / 2]'hlt = 50
      · have c3' : (((x[x.length / 2]'hlt).toNat : Nat) : Int) = 50 := by rw [c3]; rfl
        rw [if_pos c3', if_pos (by omega), if_pos (by omega), if_pos (by omega)]
        simp only [Int.toNat_natCast]
        have hs : (B x).size = x.length := rfl
        rw [← hs, B_drop, B_size, B_take _ _ (by omega), toL, toL, L_B, L_B]
        by_cases c4 : x.take (x.length / 2) = x.drop (x.length / 2 + 1)
        · rw [if_pos c4, if_pos ⟨c1, c2, by rw [List.getElem?_eq_getElem hlt, c3], c4⟩]; rfl
        · rw [if_neg c4, if_neg (fun h => c4 h.2.2.2)]; rfl
      · have c3' : ¬ (((x[x.length / 2]'hlt).toNat : Nat) : Int) = 50 := fun h => c3 (UInt8.toNat_inj.1 (Int.ofNat.inj h))
        rw [if_neg c3', if_neg (fun h => c3 (by have := h.2.2.1; rw [List.getElem?_eq_getElem hlt] at this; exact Option.some.inj this))]; rfl
    · rw [if_neg (by omega), if_neg (fun h => c2 h.2.1)]; rfl
  · rw [if_neg (by omega), if_neg (fun h => c1 h.1)]; rfl
theorem f5_is (x : List UInt8) (hl : x.length ≤ 100000) : parrot_operations_5.f (B x) = some ((befores 52 x).map B) := by
  rw [bef_52]
  unfold parrot_operations_5.f parrot_reversed.f
  rw [if_pos (by rw [B_size]; omega), L_B]; rfl
theorem f8_is (x : List UInt8) (hl : x.length ≤ 100000) : parrot_operations_8.f (B x) = some ((befores 53 x).map B) := by
  rw [bef_53]
  unfold parrot_operations_8.f
  rw [B_size]
  have e0 : wrap64 ((x.length : Int) / 2) = ((x.length / 2 : Nat) : Int) := by rw [wq (by omega)]; omega
  rw [e0]
  by_cases c2 : x.length % 2 = 0
  · rw [if_pos (by omega), if_pos (by omega), if_pos (by omega)]
    simp only [Int.toNat_natCast]
    have hs : (B x).size = x.length := rfl
    rw [← hs, B_drop, B_size, B_take _ _ (by omega), toL, toL, L_B, L_B]
    by_cases c4 : x.take (x.length / 2) = x.drop (x.length / 2)
    · rw [if_pos c4, if_pos ⟨c2, c4⟩]; rfl
    · rw [if_neg c4, if_neg (fun h => c4 h.2)]; rfl
  · rw [if_neg (by omega), if_neg (fun h => c2 h.1)]; rfl
theorem f14_is (x : List UInt8) (hl : x.length ≤ 100000) : parrot_operations_14.f (B x) = some ((befores 55 x).map B) := by
  rw [bef_55]
  unfold parrot_operations_14.f
  have hs : (B x).size = x.length := rfl
  by_cases c1 : x.length > 1
  · cases x with
    | nil => simp at c1
    | cons y t =>
      have hb : bt (B (y :: t)) 0 = (y.toNat : Int) := bt_B (y :: t) 0 (by simp)
      rw [if_pos (by rw [hs]; omega), if_pos (by rw [hs]; omega), hb]
      by_cases c3 : y = 49
      · subst c3
        rw [if_pos (by rfl), if_pos (by rw [hs]; omega), B_drop, if_pos ⟨c1, rfl⟩]; rfl
      · rw [if_neg (show ¬ (y.toNat : Int) = 49 from fun h => c3 (UInt8.toNat_inj.1 (Int.ofNat.inj h))), if_neg (fun h => c3 (by simpa using h.2))]; rfl
  · rw [if_neg (by rw [hs]; omega), if_neg (fun h => c1 h.1)]; rfl
theorem encode_dig {c : UInt8} (h : c.toNat < 128) : Utf8.encode (c.toNat : Int) = B [c] := by
  have hh : ∀ n : Fin 128, Utf8.encode ((UInt8.ofNat n).toNat : Int) = B [UInt8.ofNat n] := by decide +kernel
  have := hh ⟨c.toNat, h⟩
  simpa using this
open Go.Maps Go.Proofs.YtcjbnonjhahakaaDoor.Math Go.Proofs.YtcjbnonjhahakaaDoor.Goes Go.Proofs.YtcjbnonjhahakaaDoor.Bef
abbrev S9 : ByteArray := ⟨#[49, 50, 51, 52, 53, 54, 55, 56, 57]⟩
theorem S9_at (i : Nat) (h : i < S9.size) : ∃ d, S9[i]'h = d ∧ nine[i]? = some d ∧ d.toNat < 128 := by
  have hs : i < 9 := h
  match i, hs with
  | 0, _ => exact ⟨49, rfl, rfl, by decide⟩
  | 1, _ => exact ⟨50, rfl, rfl, by decide⟩
  | 2, _ => exact ⟨51, rfl, rfl, by decide⟩
  | 3, _ => exact ⟨52, rfl, rfl, by decide⟩
  | 4, _ => exact ⟨53, rfl, rfl, by decide⟩
  | 5, _ => exact ⟨54, rfl, rfl, by decide⟩
  | 6, _ => exact ⟨55, rfl, rfl, by decide⟩
  | 7, _ => exact ⟨56, rfl, rfl, by decide⟩
  | 8, _ => exact ⟨57, rfl, rfl, by decide⟩
set_option maxHeartbeats 1000000 in
set_option maxRecDepth 100000 in
theorem six_main (x : List UInt8) (hx : x.length ≤ 100000) (w : World) :
    Calls Tryd.prog 134 #[.string (B x)] w fun e w' => ∃ v0_ : Value, e = .returned (v0_) ∧ Kd.R Kd.string 9 w' w.heap.size (fun _ => True) v0_ ((befores 54 x).map B) ∧ Below w.heap.size w w' := by
  have mixed : Tryd.prog.follows Departure.mixedOrders = true := by kernel_rfl
  have info9 : (Tryd.prog.info? 9).map (fun i => (i.zero, i.size, i.bytes)) = some (some (.string ByteArray.empty), 1, 16) := by kernel_rfl
  obtain ⟨i0, hi, hz0, hz1, hz2⟩ := info_parts info9
  have hbs : (B x).size = x.length := rfl
  obtain ⟨a, ha⟩ : ∃ a, B x = a := ⟨_, rfl⟩
  have HX := Aside0.mk ha
  rw [ha] at hbs ⊢
  have hadd : ∀ (a b : ByteArray) (W : World), a.size + b.size ≤ 9000000 → (Op.stringOp .add a b).run Tryd.prog W = .ok (.string (a ++ b)) W := fun a b W h => run_string_add_sum W a b (by omega)
  clear ha
  obtain ⟨S, hS⟩ : ∃ S, S9 = S := ⟨_, rfl⟩
  have hSs : S.size = 9 := by rw [← hS]; rfl
  have HS : Aside0 (S9 = S) := ⟨hS⟩
  have HD : Aside0 (∀ (i : Nat) (h : i < S.size), ∃ d, S[i]'h = d ∧ nine[i]? = some d ∧ d.toNat < 128) := ⟨by subst hS; exact S9_at⟩
  clear hS
  go_enter Tryd.func134, Tryd.ntmps134
  go_wp2
  go_loopg [3] 9 (fun q v3 wr => ∃ (i : Nat) (u : Value), u = v3 ∧ i + q = 9 ∧ Aside0 (wr.ownsRow (w.heap.size + 1) 9 1 u i (((nine.take i).map fun d => B (d :: x)).map Value.string)) ∧ wr.heap[w.heap.size]? = some (.stringIter S i) ∧ Aside0 (Below w.heap.size w wr))
  case atStart => exact ⟨0, _, rfl, by omega, ⟨own_nil _ _ _ _⟩, (by rw [← HS.out]; exact World.iter_heap w S9 0), ⟨below_alloc (Below.refl _ _) _⟩⟩
  case round =>
    obtain ⟨i, u, rfl, hiq, HO, hit, HBw⟩ := hrel
    by_cases hlt : i < S.size
    · obtain ⟨q, rfl⟩ : ∃ q, gk = q + 1 := ⟨gk - 1, by omega⟩
      obtain ⟨d, hd, hd9, hd1⟩ := HD.out i hlt
      have hnx := fun ty => Lib.run_next_ascii_at (P := Tryd.prog) wr w.heap.size S i ty hit hlt (by rw [hd]; exact hd1)
      rw [hd] at hnx
      have htk : nine.take (i + 1) = nine.take i ++ [d] := by rw [List.take_add_one, hd9]; rfl
      have hit2 := Lib.iterAt_heap wr w.heap.size S i (i + 1) hit
      have HBw2 := Aside0.mk (Lib.below_iterAt HBw.out (k := w.heap.size) (Nat.le_refl _) S (i + 1))
      have HO2 : Aside0 ((wr.iterAt w.heap.size S (i + 1)).ownsRow (w.heap.size + 1) 9 1 u i (((nine.take i).map fun d => B (d :: x)).map Value.string)) := ⟨ownsRow_iterAt HO.out (by omega) _ _⟩
      obtain ⟨W1, hW1⟩ : ∃ W1, wr.iterAt w.heap.size S (i + 1) = W1 := ⟨_, rfl⟩
      rw [hW1] at hnx hit2 HBw2 HO2
      obtain ⟨s1, hs1⟩ : ∃ s1, B [d] = s1 := ⟨_, rfl⟩
      have henc : Utf8.encode (d.toNat : Int) = s1 := (encode_dig hd1).trans hs1
      have hcv : ∀ W, (convert 21 9 (.int .i32 (d.toNat : Int))).run Tryd.prog W = .ok (.string s1) W := fun W => by
        rw [← henc]
        simp [convert, run_underlying Tryd.underlying21, run_underlying Tryd.underlying9, Conv.intToString]
      have HS1 := Aside0.mk hs1
      clear henc hs1
      have hes : s1.size = 1 := by rw [← HS1.out]; rfl
      clear HO hit HBw hd hd9 hW1
      have hw1 : w.heap.size + 1 ≤ W1.heap.size := by have := (Array.getElem?_eq_some_iff.1 hit2).1; omega
      go_wp2_with (at_builtin; refine wpList_append_lies _ rfl _ _ 32 rfl (w.heap.size + 1) 9 i0 (.string ByteArray.empty) 1 16 Tryd.underlying32 hi hz0 hz1 hz2 rfl (by decide) _ _ _ rfl (HO2.out.alloc _) ⟨W1.heap.size, 0, none⟩ 1 1 [.string (s1 ++ a)] rfl rfl ?c1 ?c2 (by decide) ?c3 ?c4 ?c5 (W1.heap.size + 1) (by simp) ?_)
      case c1 => exact cell_one_new _ _ _
      case c2 => intro u hu; simp at hu; subst hu; rfl
      case c3 => unfold maxLen; omega
      case c4 => omega
      case c5 => simp; omega
      intro g cap w4 hown4 hgrow4 hat4 hlt4
      have hsz1 : (W1.alloc (.cells #[.string (s1 ++ a)] 9)).heap.size = W1.heap.size + 1 := by simp
      have e1 : s1 ++ a = B (d :: x) := by
        rw [← HS1.out, ← HX.out]
        exact B_of (by rw [L_append, L_B, L_B]; rfl)
      have HO4 : Aside0 (w4.ownsRow (w.heap.size + 1) 9 1 (.slice (some ⟨g, 0, none⟩) (i + 1) cap) (i + 1) (((nine.take (i + 1)).map fun d => B (d :: x)).map Value.string)) := ⟨by
        rw [e1] at hown4
        have e2 : ((nine.take (i + 1)).map fun d => B (d :: x)).map Value.string = ((nine.take i).map fun d => B (d :: x)).map Value.string ++ [Value.string (B (d :: x))] := by rw [htk]; simp
        rw [e2]
        simpa using hown4⟩
      have hit4 : w4.heap[w.heap.size]? = some (.stringIter S (i + 1)) := by
        refine (hgrow4.block _ (by rw [hsz1]; omega) (fun e => ?_)).trans ((Below.heap_alloc _ _ _ (by omega)).trans hit2)
        have := own_base HO2.out _ e.symm
        omega
      have HBw4 : Aside0 (Below w.heap.size w w4) := ⟨pw_below_grown (below_alloc HBw2.out _) _ (by rw [hsz1]; omega) hgrow4 (fun k hk => by have := own_base HO2.out k hk; omega)⟩
      clear hown4 hgrow4 hat4
      go_wp2
      go_roundg q
      case measure => omega
      case rel => exact ⟨i + 1, _, rfl, by omega, HO4, hit4, HBw4⟩
    · obtain rfl : gk = 0 := by omega
      obtain rfl : i = S.size := by omega
      have hnx := fun ty => Lib.run_next_end_at (P := Tryd.prog) wr w.heap.size S S.size ty hit (by omega)
      rw [hSs] at HO
      have hnn : nine.take 9 = nine := rfl
      rw [hnn] at HO
      go_wp2
      go_ret
      refine ⟨_, rfl, ?_, HBw.out⟩
      rw [bef_54, List.map_map]
      exact own_RS (own_less HO.out (by omega)) (by simp [nine])
theorem callB {c : UInt8} (hc : isOp c = true) (x : List UInt8) (hx : x.length ≤ 100000) (w : World) :
    Calls Tryd.prog (fB c) #[.string (B x)] w fun e w' => ∃ v0_ : Value, e = .returned (v0_) ∧ Kd.R Kd.string 9 w' w.heap.size (fun _ => True) v0_ ((befores c x).map B) ∧ Below w.heap.size w w' := by
  rcases isOp_cases hc with rfl | rfl | rfl | rfl | rfl
  · exact parrot_operations_3.calls (B x) _ w (f3_is x hx)
  · exact parrot_operations_5.calls (B x) _ w (f5_is x hx)
  · exact parrot_operations_8.calls (B x) _ w (f8_is x hx)
  · exact six_main x hx w
  · exact parrot_operations_14.calls (B x) _ w (f14_is x hx)
theorem fB_run {c : UInt8} (hc : isOp c = true) : ∃ fn, Tryd.prog.funcs[fB c]? = some fn ∧ (fn.name == "runtime.NumGoroutine") = false ∧ fn.body.isSome = true := by
  rcases isOp_cases hc with rfl | rfl | rfl | rfl | rfl
  · exact ⟨_, Tryd.func126, by kernel_rfl, by kernel_rfl⟩
  · exact ⟨_, Tryd.func128, by kernel_rfl, by kernel_rfl⟩
  · exact ⟨_, Tryd.func131, by kernel_rfl, by kernel_rfl⟩
  · exact ⟨_, Tryd.func134, by kernel_rfl, by kernel_rfl⟩
  · exact ⟨_, Tryd.func137, by kernel_rfl, by kernel_rfl⟩
/-- A made row of strings, cell by cell. -/
theorem RS_form {w : World} {base : Nat} {v : Value} {l : List ByteArray} (h : Kd.R Kd.string 9 w base (fun _ => True) v l) :
    ∃ p c, v = .slice p l.length c ∧ (l.length = 0 ∨ ∃ g cells, p = some ⟨g, 0, none⟩ ∧ base ≤ g ∧ w.heap[g]? = some (.cells cells 9) ∧ ∀ (i : Nat) s, l[i]? = some s → cells[i]? = some (.string s)) := by
  obtain ⟨_, inner, hown, hlen, hk⟩ := h
  rcases hown.2 with ⟨rfl, h0⟩ | ⟨g, cap, cur, rfl, hg, hh, hn, hm, hcur, ht⟩
  · refine ⟨none, 0, by rw [h0], .inl h0⟩
  · refine ⟨_, cap, rfl, .inr ⟨g, cur, rfl, hg, hh, fun i s hi => ?_⟩⟩
    have h1 := (List.getElem?_eq_some_iff.1 hi)
    obtain ⟨h2, h3⟩ := h1
    have := hk i s hi
    simp [Kd.string, Kd.scalar] at this
    have h4 : inner[i]? = some (.string s) := by
      have e2 : (List.take 1 (List.drop i inner))[0]? = some (.string s) := by rw [this]; rfl
      rw [List.getElem?_take, if_pos (by decide), List.getElem?_drop, Nat.add_zero] at e2
      exact e2
    rw [← ht, List.getElem?_take] at h4
    split at h4
    · simpa using h4
    · cases h4

end Go.Proofs.YtcjbnonjhahakaaDoor.Hand
