/- What the printed functions of layers 3 and 7 come to, in plain lists: the seating, the partners and the roads. -/
import Derived.Test.YtldohjlcckbfaaaGreatDoorProg
import Derived.Below
import Derived.Deep.Draws
import Derived.Deep.AppendLies
import Derived.Maps.AppendAt
import Derived.OwnWalk
import Derived.Laws.BytesArg
import Derived.Laws.MakeOwn
import Derived.Laws.OwnMore
import Derived.Deep.OwnRows
import Derived.Tactics
import Derived.Lib.ConvBytes
import Derived.Laws.Slices
import Derived.WalkKit
import Derived.KernelRfl
import Derived.RowKit3
import Derived.Deep.LoopGhost
import Derived.Deep.QuietTactic
import Derived.BigQuiet
import Derived.WideLaws
import Derived.Deep.DeepCutAuto
import Derived.Deep.CutBlock
import Derived.Deep.RegionHeld3
import Derived.Laws.Rows
import Derived.Lib.AppendStr
import Derived.ArgAppend
import Derived.Laws.IdiomCopy
import Derived.OrdersHeld
import Derived.Laws.BitsLemmas
import Derived.RowKit
import Derived.Test.YtldohjlcckbfaaaGreatDoorWWords
import Derived.Test.YtldohjlcckbfaaaGreatDoorWLast
import Derived.Test.YtldohjlcckbfaaaGreatDoorWTab
import Derived.Test.YtldohjlcckbfaaaGreatDoorWFour
import Derived.Test.YtldohjlcckbfaaaGreatDoorWQPut
import Derived.Test.YtldohjlcckbfaaaGreatDoorWApart
import Derived.Test.YtldohjlcckbfaaaGreatDoorWArr
import Derived.Test.YtldohjlcckbfaaaGreatDoorWZeros
import Derived.Test.YtldohjlcckbfaaaGreatDoorWFoot
import Derived.Test.YtldohjlcckbfaaaGreatDoorWKept
import Derived.Test.YtldohjlcckbfaaaGreatDoorWShare
import Derived.Test.YtldohjlcckbfaaaGreatDoorWN
import Derived.Test.YtldohjlcckbfaaaGreatDoorWFootNe
import Derived.Test.YtldohjlcckbfaaaGreatDoorWAt
import Derived.Test.YtldohjlcckbfaaaGreatDoorWEqStruct
import Derived.Test.YtldohjlcckbfaaaGreatDoorWRepsOne
import Derived.Test.YtldohjlcckbfaaaGreatDoorWInv
import Derived.Test.YtldohjlcckbfaaaGreatDoorWInvWords
import Derived.Test.YtldohjlcckbfaaaGreatDoorWGuard
import Derived.Test.YtldohjlcckbfaaaGreatDoorWNEv
import Derived.Test.YtldohjlcckbfaaaGreatDoorWMore
import Derived.Test.YtldohjlcckbfaaaGreatDoorPrint1
import Derived.Test.YtldohjlcckbfaaaGreatDoorMathT
namespace Go.Proofs.YtldohjlcckbfaaaGreatDoor.Hand
open Go.RowKit Go.Proofs.YtldohjlcckbfaaaGreatDoorW.PrintWords Go.Proofs.YtldohjlcckbfaaaGreatDoorW.PrintLast Go.Proofs.YtldohjlcckbfaaaGreatDoorW.PrintMore
set_option linter.unusedVariables false
set_option linter.unusedSimpArgs false

open Go.Proofs.YtldohjlcckbfaaaGreatDoor.Print Go.Proofs.YtldohjlcckbfaaaGreatDoor.TopMath
theorem w64 {n : Int} (h : -9223372036854775808 ≤ n ∧ n ≤ 9223372036854775807) : wrap64 n = n := by unfold wrap64; omega
theorem rd_get {l : List Int} {i : Nat} (h : i < l.length) : rd l (i : Int) = l[i] := by simp [rd, List.getD_eq_getElem?_getD, h]
theorem drop_rd {l : List Int} {i : Nat} (h : i < l.length) : l.drop i = rd l (i : Int) :: l.drop (i + 1) := by rw [rd_get h]; exact List.drop_eq_getElem_cons h
theorem rd_mem {l : List Int} {i : Nat} (h : i < l.length) : rd l (i : Int) ∈ l := by rw [rd_get h]; exact List.getElem_mem h
theorem rdb_get {T : List Bool} {i : Nat} {b : Bool} (h : T[i]? = some b) : rdOf false T (i : Int) = b := by
  unfold rdOf
  rw [Int.toNat_natCast, List.getD_eq_getElem?_getD, h]; rfl
theorem search (T : List Bool) (n : Nat) (hT : T.length = n) : ∀ (d w : Nat), w + d = n → (∃ c, w ≤ c ∧ T[c]? = some false ∧ ∀ j, w ≤ j → j < c → T[j]? = some true) ∨ (∀ j, w ≤ j → j < n → T[j]? = some true)
  | 0, w, h => .inr fun j h1 h2 => by omega
  | d + 1, w, h => by
    have hw : w < T.length := by omega
    have hg : T[w]? = some T[w] := List.getElem?_eq_getElem hw
    cases hb : T[w] with
    | false => exact .inl ⟨w, Nat.le_refl _, by rw [hg, hb], fun j h1 h2 => by omega⟩
    | true =>
      rcases search T n hT d (w + 1) (by omega) with ⟨c, h1, h2, h3⟩ | h1
      · refine .inl ⟨c, by omega, h2, fun j h4 h5 => ?_⟩
        by_cases e : j = w
        · subst e; rw [hg, hb]
        · exact h3 j (by omega) h5
      · refine .inr fun j h4 h5 => ?_
        by_cases e : j = w
        · subst e; rw [hg, hb]
        · exact h1 j (by omega) h5
/-- One customer finds chair c. -/
theorem ev_seat {n : Nat} (hn : n ≤ 1000) {T : List Bool} (hT : T.length = n) {c : Nat} (hc : T[c]? = some false) (o l : List Int) (ho : o.length ≤ 1000) (i : Int) (r : List Int × Bool)
    (h : Ev (fun k => chairs_sit.l0 k (n : Int) (T.set c true) (o ++ [(c : Int)]) l (l.length : Int) (wrap64 (i + 1))) r) : ∀ (d w : Nat), w + d = c → (∀ j, w ≤ j → j < c → T[j]? = some true) → Ev (fun k => chairs_sit.l1 k (n : Int) T o (w : Int) l (l.length : Int) i) r
  | 0, w, hw, _ => by
    have hcn := (List.getElem?_eq_some_iff.1 hc).1
    obtain rfl : w = c := by omega
    refine Ev.step (fun k => ?_) h
    simp only [chairs_sit.l1]
    rw [if_pos (by omega), if_pos (by omega), if_pos (by omega), rdb_get hc, if_neg (by decide), if_neg (by omega), if_pos (by omega), Int.toNat_natCast]
  | d + 1, w, hw, hr => by
    have hcn := (List.getElem?_eq_some_iff.1 hc).1
    have ih := ev_seat hn hT hc o l ho i r h d (w + 1) (by omega) (fun j h1 h2 => hr j (by omega) h2)
    refine Ev.step (fun k => ?_) ih
    simp only [chairs_sit.l1]
    rw [if_pos (by omega), if_pos (by omega), if_pos (by omega), rdb_get (hr w (Nat.le_refl _) (by omega)), if_pos rfl, w64 (by omega)]; rfl
/-- One customer finds none. -/
theorem ev_none {n : Nat} (hn : n ≤ 1000) {T : List Bool} (hT : T.length = n) (o l : List Int) (i : Int) : ∀ (d w : Nat), w + d = n → (∀ j, w ≤ j → j < n → T[j]? = some true) → Ev (fun k => chairs_sit.l1 k (n : Int) T o (w : Int) l (l.length : Int) i) ([], false)
  | 0, w, hw, _ => by
    obtain rfl : w = n := by omega
    refine Ev.step (f := fun _ => some ([], false)) (fun k => ?_) (Ev.now _)
    simp only [chairs_sit.l1]
    rw [if_neg (by omega), if_pos trivial]
  | d + 1, w, hw, hr => by
    have ih := ev_none hn hT o l i d (w + 1) (by omega) (fun j h1 h2 => hr j (by omega) h2)
    refine Ev.step (fun k => ?_) ih
    simp only [chairs_sit.l1]
    rw [if_pos (by omega), if_pos (by omega), if_pos (by omega), rdb_get (hr w (Nat.le_refl _) (by omega)), if_pos rfl, w64 (by omega)]; rfl
/-- All customers: everybody finds a chair exactly if all fit. -/
theorem ev_sit {n : Nat} (hn : n ≤ 1000) (l : List Int) (hl : l.length ≤ 1000) (hok : ∀ x ∈ l, 0 ≤ x ∧ x < n) : ∀ (d i : Nat) (T : List Bool) (o : List Int), i + d = l.length → T.length = n → o.length = i →
    (Fits n T ((l.drop i).map Int.toNat) → ∃ u, Ev (fun k => chairs_sit.l0 k (n : Int) T o l (l.length : Int) (i : Int)) (u, true)) ∧ (¬ Fits n T ((l.drop i).map Int.toNat) → Ev (fun k => chairs_sit.l0 k (n : Int) T o l (l.length : Int) (i : Int)) ([], false))
  | 0, i, T, o, hi, hT, ho => by
    obtain rfl : i = l.length := by omega
    rw [List.drop_length]
    refine ⟨fun _ => ⟨o, Ev.step (f := fun _ => some (o, true)) (fun k => ?_) (Ev.now _)⟩, fun h => absurd (fits_nil hT) h⟩
    simp only [chairs_sit.l0]
    rw [if_neg (by omega)]
  | d + 1, i, T, o, hi, hT, ho => by
    have hlt : i < l.length := by omega
    obtain ⟨w, hw⟩ : ∃ w : Nat, rd l (i : Int) = (w : Int) := ⟨(rd l (i : Int)).toNat, by have := (hok _ (rd_mem hlt)).1; omega⟩
    have hwn : w < n := by have := (hok _ (rd_mem hlt)).2; omega
    rw [drop_rd hlt, List.map_cons, hw, Int.toNat_natCast]
    have hstep : ∀ k, chairs_sit.l0 (k + 1) (n : Int) T o l (l.length : Int) (i : Int) = chairs_sit.l1 k (n : Int) T o (w : Int) l (l.length : Int) (i : Int) := fun k => by
      simp only [chairs_sit.l0]
      rw [if_pos (by omega), if_pos (by omega), if_pos (by omega), hw]
    rcases search T n hT (n - w) w (by omega) with ⟨c, h1, h2, h3⟩ | h1
    · have hcn := (List.getElem?_eq_some_iff.1 h2).1
      have ih := ev_sit hn l hl hok d (i + 1) (T.set c true) (o ++ [(c : Int)]) (by omega) (by rw [List.length_set]; exact hT) (by rw [List.length_append, ho]; rfl)
      have hiff := fits_seat hT h1 h2 h3 ((l.drop (i + 1)).map Int.toNat)
      have hwr : wrap64 ((i : Int) + 1) = ((i + 1 : Nat) : Int) := by rw [w64 (by omega)]; omega
      refine ⟨fun hf => ?_, fun hf => ?_⟩
      · obtain ⟨u, hu⟩ := ih.1 (hiff.2 hf)
        exact ⟨u, Ev.step hstep (ev_seat hn hT h2 o l (by omega) (i : Int) _ (by rw [hwr]; exact hu) (c - w) w (by omega) h3)⟩
      · exact Ev.step hstep (ev_seat hn hT h2 o l (by omega) (i : Int) _ (by rw [hwr]; exact ih.2 (fun q => hf (hiff.1 q))) (c - w) w (by omega) h3)
    · refine ⟨fun hf => absurd hf (fits_none (by omega) h1 _), fun _ => Ev.step hstep (ev_none hn hT o l (i : Int) (n - w) w (by omega) h1)⟩
theorem ev_sitF {n : Nat} (hn : n ≤ 1000) (l : List Int) (hl : l.length ≤ 1000) (hok : ∀ x ∈ l, 0 ≤ x ∧ x < n) :
    (Fits n (List.replicate n false) (l.map Int.toNat) → ∃ u, Ev (fun k => chairs_sit.f k (n : Int) l) (u, true)) ∧ (¬ Fits n (List.replicate n false) (l.map Int.toNat) → Ev (fun k => chairs_sit.f k (n : Int) l) ([], false)) := by
  have h := ev_sit hn l hl hok l.length 0 (List.replicate n false) [] (by omega) (by simp) rfl
  rw [List.drop_zero] at h
  have e : ∀ k, chairs_sit.f k (n : Int) l = chairs_sit.l0 k (n : Int) (List.replicate n false) [] l (l.length : Int) ((0 : Nat) : Int) := fun k => by
    unfold chairs_sit.f
    rw [if_pos (by omega), if_pos (by rw [Int.toNat_natCast]; omega), Int.toNat_natCast]; rfl
  exact ⟨fun hf => by obtain ⟨u, hu⟩ := h.1 hf; exact ⟨u, Ev.congr e hu⟩, fun hf => Ev.congr e (h.2 hf)⟩

end Go.Proofs.YtldohjlcckbfaaaGreatDoor.Hand
