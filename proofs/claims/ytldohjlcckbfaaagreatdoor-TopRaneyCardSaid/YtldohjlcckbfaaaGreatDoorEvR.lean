/- TopRaney returns true: Raney of the amounts, 1 less the customers of each chair of the circle, is Turn of the wishes. Condition: none. -/
import Derived.Test.YtldohjlcckbfaaaGreatDoorProg
import Derived.Below
import Derived.Deep.Draws
import Derived.Deep.AppendLies
import Derived.Maps.AppendAt
import Derived.OwnWalk
import Derived.Laws.BytesArg
import Derived.Laws.MakeOwn
import Derived.Laws.OwnMore
import Derived.Deep.OwnRows
import Derived.Tactics
import Derived.Lib.ConvBytes
import Derived.Laws.Slices
import Derived.WalkKit
import Derived.KernelRfl
import Derived.RowKit3
import Derived.Deep.LoopGhost
import Derived.Deep.QuietTactic
import Derived.BigQuiet
import Derived.WideLaws
import Derived.Deep.DeepCutAuto
import Derived.Deep.CutBlock
import Derived.Deep.RegionHeld3
import Derived.Laws.Rows
import Derived.Lib.AppendStr
import Derived.ArgAppend
import Derived.Laws.IdiomCopy
import Derived.OrdersHeld
import Derived.Laws.BitsLemmas
import Derived.RowKit
import Derived.Test.YtldohjlcckbfaaaGreatDoorWWords
import Derived.Test.YtldohjlcckbfaaaGreatDoorWLast
import Derived.Test.YtldohjlcckbfaaaGreatDoorWTab
import Derived.Test.YtldohjlcckbfaaaGreatDoorWFour
import Derived.Test.YtldohjlcckbfaaaGreatDoorWQPut
import Derived.Test.YtldohjlcckbfaaaGreatDoorWApart
import Derived.Test.YtldohjlcckbfaaaGreatDoorWArr
import Derived.Test.YtldohjlcckbfaaaGreatDoorWZeros
import Derived.Test.YtldohjlcckbfaaaGreatDoorWFoot
import Derived.Test.YtldohjlcckbfaaaGreatDoorWKept
import Derived.Test.YtldohjlcckbfaaaGreatDoorWShare
import Derived.Test.YtldohjlcckbfaaaGreatDoorWN
import Derived.Test.YtldohjlcckbfaaaGreatDoorWFootNe
import Derived.Test.YtldohjlcckbfaaaGreatDoorWAt
import Derived.Test.YtldohjlcckbfaaaGreatDoorWEqStruct
import Derived.Test.YtldohjlcckbfaaaGreatDoorWRepsOne
import Derived.Test.YtldohjlcckbfaaaGreatDoorWInv
import Derived.Test.YtldohjlcckbfaaaGreatDoorWInvWords
import Derived.Test.YtldohjlcckbfaaaGreatDoorWGuard
import Derived.Test.YtldohjlcckbfaaaGreatDoorWNEv
import Derived.Test.YtldohjlcckbfaaaGreatDoorWMore
import Derived.Test.YtldohjlcckbfaaaGreatDoorHandR
import Derived.Test.YtldohjlcckbfaaaGreatDoorPrint1
import Derived.Test.YtldohjlcckbfaaaGreatDoorEvA
import Derived.Test.YtldohjlcckbfaaaGreatDoorMathT
namespace Go.Proofs.YtldohjlcckbfaaaGreatDoor.Hand
open Go.RowKit Go.Proofs.YtldohjlcckbfaaaGreatDoorW.PrintWords Go.Proofs.YtldohjlcckbfaaaGreatDoorW.PrintLast Go.Proofs.YtldohjlcckbfaaaGreatDoorW.PrintMore
set_option linter.unusedVariables false
set_option linter.unusedSimpArgs false

open Go.Proofs.YtldohjlcckbfaaaGreatDoor.Print Go.Proofs.YtldohjlcckbfaaaGreatDoor.TopMath Go.Proofs.YtldohjlcckbfaaaGreatDoor.Pre Go.Proofs.YtldohjlcckbfaaaGreatDoor.Base
theorem seated_true : SeatedSaid := fun w => pomadetop_seated.calls 60 true w (by decide +kernel)
theorem ok_of {l : List Int} {n : Nat} (h : l.any (outB · n) = false) : ∀ x ∈ l, 0 ≤ x ∧ x < n := by
  intro x hx
  have := List.any_eq_false.1 h x hx
  unfold outB at this
  simp at this
  omega
/-- Wishes with a number added, around n + 1 chairs. -/
def turnI (l : List Int) (n t : Nat) : List Int := l.map fun x => ((x.toNat + t) % (n + 1) : Nat)
theorem ev_turned_l (l : List Int) (n t : Nat) (hn : n ≤ 1000) (ht : t ≤ 1000) (hl : l.length ≤ 1000) (hok : ∀ x ∈ l, 0 ≤ x ∧ x < n) : ∀ (d i : Nat) (o : List Int), i + d = l.length → o.length = i →
    Ev (fun k => chairs_turned.l0 k (n : Int) (t : Int) o l (l.length : Int) (i : Int)) (o ++ turnI (l.drop i) n t)
  | 0, i, o, hi, ho => by
    obtain rfl : i = l.length := by omega
    rw [List.drop_length]
    refine Ev.step (f := fun _ => some (o ++ turnI [] n t)) (fun k => ?_) (Ev.now _)
    simp only [chairs_turned.l0]
    rw [if_neg (by omega)]
    simp [turnI]
  | d + 1, i, o, hi, ho => by
    have hlt : i < l.length := by omega
    have hx := hok _ (rd_mem hlt)
    rw [drop_rd hlt]
    obtain ⟨w, hw⟩ : ∃ w : Nat, rd l (i : Int) = (w : Int) := ⟨(rd l (i : Int)).toNat, by omega⟩
    have hm : Int.tmod (wrap64 (rd l (i : Int) + (t : Int))) (wrap64 ((n : Int) + 1)) = (((w + t) % (n + 1) : Nat) : Int) := by
      rw [hw, w64 (by omega), w64 (by omega), Int.tmod_eq_emod_of_nonneg (by omega), show ((n : Int) + 1) = ((n + 1 : Nat) : Int) by omega, show ((w : Int) + (t : Int)) = ((w + t : Nat) : Int) by omega, ← Int.natCast_emod]
    have ih := ev_turned_l l n t hn ht hl hok d (i + 1) (o ++ [(((w + t) % (n + 1) : Nat) : Int)]) (by omega) (by rw [List.length_append, ho]; rfl)
    have e : o ++ turnI (rd l (i : Int) :: l.drop (i + 1)) n t = (o ++ [(((w + t) % (n + 1) : Nat) : Int)]) ++ turnI (l.drop (i + 1)) n t := by
      unfold turnI
      rw [List.map_cons, hw, Int.toNat_natCast, List.append_assoc]; rfl
    rw [e]
    refine Ev.step (fun k => ?_) ih
    simp only [chairs_turned.l0]
    rw [if_pos (by omega), if_pos (by omega), if_pos (by omega), if_neg (by rw [w64 (by omega)]; omega), if_pos (by omega), hm, w64 (n := (i : Int) + 1) (by omega)]; rfl
theorem ev_turned (l : List Int) (n t : Nat) (hn : n ≤ 1000) (ht : t ≤ 1000) (hl : l.length ≤ 1000) (hok : ∀ x ∈ l, 0 ≤ x ∧ x < n) : Ev (fun k => chairs_turned.f k (n : Int) l (t : Int)) (turnI l n t) := by
  have h := ev_turned_l l n t hn ht hl hok l.length 0 [] (by omega) rfl
  rw [List.drop_zero, List.nil_append] at h
  exact Ev.congr (fun k => rfl) h
theorem ev_Index (l : List Int) (v : Int) (hl : l.length ≤ 1000) : ∀ (d i : Nat), i + d = l.length → ∃ r : Int, Ev (fun k => slices_Index_int_int.l0 k l v (l.length : Int) (i : Int)) r ∧ (r ≥ 0 ↔ v ∈ l.drop i)
  | 0, i, hi => by
    obtain rfl : i = l.length := by omega
    refine ⟨-1, Ev.step (f := fun _ => some (-1)) (fun k => ?_) (Ev.now _), ?_⟩
    · simp only [slices_Index_int_int.l0]
      rw [if_neg (by omega)]
    · rw [List.drop_length]; simp
  | d + 1, i, hi => by
    have hlt : i < l.length := by omega
    rw [drop_rd hlt]
    by_cases e : v = rd l (i : Int)
    · refine ⟨i, Ev.step (f := fun _ => some (i : Int)) (fun k => ?_) (Ev.now _), ?_⟩
      · simp only [slices_Index_int_int.l0]
        rw [if_pos (by omega), if_pos (by omega), if_pos (by omega), if_pos e]
      · simp [e]
    · obtain ⟨r, hr, hiff⟩ := ev_Index l v hl d (i + 1) (by omega)
      refine ⟨r, Ev.step (fun k => ?_) hr, ?_⟩
      · simp only [slices_Index_int_int.l0]
        rw [if_pos (by omega), if_pos (by omega), if_pos (by omega), if_neg e, w64 (by omega)]; rfl
      · rw [hiff]; simp [e]
theorem ev_Contains (l : List Int) (v : Int) (hl : l.length ≤ 1000) : Ev (fun k => slices_Contains_int_int.f k l v) (decide (v ∈ l)) := by
  obtain ⟨r, hr, hiff⟩ := ev_Index l v hl l.length 0 (by omega)
  rw [List.drop_zero] at hiff
  have e : decide (v ∈ l) = decide (r ≥ 0) := by rw [Bool.eq_iff_iff]; simp [hiff]
  rw [e]
  exact Ev.bind (g := fun k => slices_Index_int_int.f k l v) (f := fun _ (t : Int) => some (decide (t ≥ 0))) hr (Ev.now _)
theorem turn_turned {l : List Int} {n t : Nat} (hok : ∀ x ∈ l, 0 ≤ x ∧ x < n) : (turnI l n t).map Int.toNat = turned (l.map Int.toNat) n t := by
  unfold turnI turned
  rw [List.map_map, List.map_map]
  refine List.map_congr_left fun x _ => ?_
  show ((((x.toNat + t) % (n + 1) : Nat) : Int)).toNat = (x.toNat + t) % (n + 1)
  rw [Int.toNat_natCast]
/-- A turn is tried: it lets all sit exactly if it is the one. -/
theorem ev_Turn_l {l : List Int} {n r : Nat} (n1 : 1 ≤ n) (n2 : n ≤ 30) (hl : l.length = n) (hok : ∀ x ∈ l, 0 ≤ x ∧ x < n) (hr : r ≤ n) (hf : ∀ t, t ≤ n → (Fits n (List.replicate n false) (turned (l.map Int.toNat) n t) ↔ t = r)) :
    ∀ (d t : Nat), t + d = r → Ev (fun k => chairs_Turn.l0 k (n : Int) l ((n + 1 : Nat) : Int) (t : Int)) ((r : Int), 0) := by
  have step : ∀ t, t ≤ n → Ev (fun k => chairs_Turn.l0 k (n : Int) l ((n + 1 : Nat) : Int) ((t + 1 : Nat) : Int)) ((r : Int), 0) ∨ t = r → Ev (fun k => chairs_Turn.l0 k (n : Int) l ((n + 1 : Nat) : Int) (t : Int)) ((r : Int), 0) := by
    intro t ht hnext
    have h1 := ev_turned l n t (by omega) (by omega) (by omega) hok
    have hlen : (turnI l n t).length = n := by unfold turnI; rw [List.length_map, hl]
    have h2 := ev_Contains (turnI l n t) (n : Int) (by omega)
    have hw : wrap64 ((t : Int) + 1) = ((t + 1 : Nat) : Int) := by rw [w64 (by omega)]; omega
    have hstep : ∀ k, chairs_Turn.l0 (k + 1) (n : Int) l ((n + 1 : Nat) : Int) (t : Int) = (chairs_turned.f k (n : Int) l (t : Int)).bind fun t166 => ((slices_Contains_int_int.f k t166 (n : Int)).bind fun t169 => (if t169 = true then (chairs_Turn.l0 k (n : Int) l ((n + 1 : Nat) : Int) ((t + 1 : Nat) : Int)) else ((chairs_sit.f k (n : Int) t166).bind fun bt170 => (if bt170.2 = true then (some ((t : Int), 0)) else (chairs_Turn.l0 k (n : Int) l ((n + 1 : Nat) : Int) ((t + 1 : Nat) : Int)))))) := fun k => by
      simp only [chairs_Turn.l0]
      rw [if_pos (by omega), hw]
    refine Ev.step hstep (Ev.bind (f := fun k t166 => ((slices_Contains_int_int.f k t166 (n : Int)).bind fun t169 => (if t169 = true then (chairs_Turn.l0 k (n : Int) l ((n + 1 : Nat) : Int) ((t + 1 : Nat) : Int)) else ((chairs_sit.f k (n : Int) t166).bind fun bt170 => (if bt170.2 = true then (some ((t : Int), 0)) else (chairs_Turn.l0 k (n : Int) l ((n + 1 : Nat) : Int) ((t + 1 : Nat) : Int))))))) h1 ?_)
    refine Ev.bind (f := fun k t169 => (if t169 = true then (chairs_Turn.l0 k (n : Int) l ((n + 1 : Nat) : Int) ((t + 1 : Nat) : Int)) else ((chairs_sit.f k (n : Int) (turnI l n t)).bind fun bt170 => (if bt170.2 = true then (some ((t : Int), 0)) else (chairs_Turn.l0 k (n : Int) l ((n + 1 : Nat) : Int) ((t + 1 : Nat) : Int)))))) h2 ?_
    have hiff := hf t ht
    rw [← turn_turned hok] at hiff
    by_cases hc : (n : Int) ∈ turnI l n t
    · -- a customer wishes the place that is no chair
      have hno : ¬ Fits n (List.replicate n false) ((turnI l n t).map Int.toNat) := by
        intro h
        have h3 := h n (Nat.le_refl n)
        rw [Nat.sub_self] at h3
        have h4 : wish ((turnI l n t).map Int.toNat) n = 0 := by omega
        unfold wish at h4
        rw [List.countP_eq_zero] at h4
        have := h4 n (List.mem_map.2 ⟨(n : Int), hc, by simp⟩)
        simp at this
      rcases hnext with hn | rfl
      · refine Ev.congr (fun k => ?_) hn
        rw [if_pos (decide_eq_true hc)]
      · exact absurd (hiff.2 rfl) hno
    · have hok2 : ∀ x ∈ turnI l n t, 0 ≤ x ∧ x < n := by
        intro x hx
        have hx' := hx
        unfold turnI at hx
        obtain ⟨y, _, rfl⟩ := List.mem_map.1 hx
        have h5 := Nat.mod_lt (y.toNat + t) (show 0 < n + 1 by omega)
        have h6 : (((y.toNat + t) % (n + 1) : Nat) : Int) ≠ (n : Int) := fun e => hc (e ▸ hx')
        omega
      have h3 := ev_sitF (n := n) (by omega) (turnI l n t) (by omega) hok2
      have e3 : ∀ k, (if decide ((n : Int) ∈ turnI l n t) = true then (chairs_Turn.l0 k (n : Int) l ((n + 1 : Nat) : Int) ((t + 1 : Nat) : Int)) else ((chairs_sit.f k (n : Int) (turnI l n t)).bind fun bt170 => (if bt170.2 = true then (some ((t : Int), (0 : Int))) else (chairs_Turn.l0 k (n : Int) l ((n + 1 : Nat) : Int) ((t + 1 : Nat) : Int))))) = (chairs_sit.f k (n : Int) (turnI l n t)).bind fun bt170 => (if bt170.2 = true then (some ((t : Int), (0 : Int))) else (chairs_Turn.l0 k (n : Int) l ((n + 1 : Nat) : Int) ((t + 1 : Nat) : Int))) := fun k => by
        rw [if_neg (by rw [decide_eq_false hc]; decide)]
      refine Ev.congr e3 ?_
      by_cases e : t = r
      · subst e
        obtain ⟨u, hu⟩ := h3.1 (hiff.2 rfl)
        refine Ev.bind (f := fun k (bt170 : List Int × Bool) => (if bt170.2 = true then (some ((t : Int), (0 : Int))) else (chairs_Turn.l0 k (n : Int) l ((n + 1 : Nat) : Int) ((t + 1 : Nat) : Int)))) hu ?_
        exact Ev.congr (fun k => by rw [if_pos rfl]) (Ev.now _)
      · have hu := h3.2 (fun q => e (hiff.1 q))
        refine Ev.bind (f := fun k (bt170 : List Int × Bool) => (if bt170.2 = true then (some ((t : Int), (0 : Int))) else (chairs_Turn.l0 k (n : Int) l ((n + 1 : Nat) : Int) ((t + 1 : Nat) : Int)))) hu ?_
        rcases hnext with hn | hn
        · exact Ev.congr (fun k => by rw [if_neg (by decide)]) hn
        · exact absurd hn e
  intro d
  induction d with
  | zero => intro t ht; exact step t (by omega) (.inr (by omega))
  | succ d ih => intro t ht; exact step t (by omega) (.inl (ih (t + 1) (by omega)))
theorem ev_Turn {l : List Int} {n r : Nat} (n1 : 1 ≤ n) (n2 : n ≤ 30) (hl : l.length = n) (hbad : l.any (outB · n) = false) (hr : r ≤ n) (hf : ∀ t, t ≤ n → (Fits n (List.replicate n false) (turned (l.map Int.toNat) n t) ↔ t = r)) :
    Ev (fun k => chairs_Turn.f k (n : Int) l) ((r : Int), 0) := by
  have hok := ok_of hbad
  have h := ev_Turn_l n1 n2 hl hok hr hf r 0 (by omega)
  have hw : chairs_wished.f (n : Int) l = some 0 := by
    unfold chairs_wished.f
    rw [if_neg (by omega), if_neg (by omega), if_neg (by omega), if_neg (by rw [hbad]; decide)]
  have hn : wrap64 ((n : Int) + 1) = ((n + 1 : Nat) : Int) := by rw [w64 (by omega)]; omega
  refine Ev.congr (fun k => ?_) h
  unfold chairs_Turn.f
  rw [hw, Option.bind_some, if_pos rfl, hn]; rfl
theorem amt_amounts {l : List Int} {n : Nat} (hl : l.length = n) (hok : ∀ x ∈ l, 0 ≤ x ∧ x < n) : amt (cnt l n ++ [0]) n = amounts (l.map Int.toNat) n := by
  unfold amt amounts
  refine List.map_congr_left fun i hi => ?_
  have hin := List.mem_range.1 hi
  obtain ⟨D, hD⟩ : ∃ D, n - i = D := ⟨_, rfl⟩
  rw [hD]
  have hc : ((l.map Int.toNat).countP (fun x => decide (x = D))) = l.countP (fun x => decide (x = (D : Int))) := by
    rw [List.countP_map]
    refine List.countP_congr fun x hx => ?_
    have := hok x hx
    rw [Function.comp_apply, decide_eq_true_iff, decide_eq_true_iff]
    omega
  show (1 : Int) - rd (cnt l n ++ [0]) (D : Int) = 1 - (((l.map Int.toNat).countP (fun x => decide (x = D)) : Nat) : Int)
  rw [hc]
  by_cases h : D < n
  · have e : rd (cnt l n ++ [0]) (D : Int) = rd (cnt l n) (D : Int) := by
      unfold rd
      rw [Int.toNat_natCast, List.getD_eq_getElem?_getD, List.getD_eq_getElem?_getD, List.getElem?_append_left (by rw [cnt_length]; exact h)]
    rw [e, cnt_rd l n (D : Int) (by omega) (by omega)]
  · obtain rfl : D = n := by omega
    have e : rd (cnt l D ++ [0]) (D : Int) = 0 := by
      unfold rd
      rw [Int.toNat_natCast, List.getD_eq_getElem?_getD, List.getElem?_append_right (by rw [cnt_length]; exact Nat.le_refl _), cnt_length, Nat.sub_self]; rfl
    have z : l.countP (fun x => decide (x = (D : Int))) = 0 := by
      rw [List.countP_eq_zero]
      intro x hx
      have := hok x hx
      simp; omega
    rw [e, z]; rfl
theorem raney_true (A0 : Option Addr) (c0 : Nat) (l0 : List Int) (w : World) (hr0 : Kd.C (Kd.int .i64) w A0 l0.length l0) (hc0 : l0.length ≤ c0) :
    Calls Tryz.prog 3 #[.slice A0 l0.length c0] w fun e w' => e = .returned (.bool true) ∧ Below w.heap.size w w' := by
  by_cases h1 : l0.length < 1 ∨ 30 < l0.length
  · exact raney_out seated_true A0 c0 l0 w h1
  · have n1 : 1 ≤ l0.length := by omega
    have n2 : l0.length ≤ 30 := by omega
    cases hbad : l0.any (outB · l0.length) with
    | true => exact raney_nil seated_true A0 c0 l0 w hr0 n1 n2 hbad
    | false =>
      have hok := ok_of hbad
      have hw : ∀ x ∈ l0.map Int.toNat, x ≤ l0.length := by
        intro x hx
        obtain ⟨y, hy, rfl⟩ := List.mem_map.1 hx
        have := hok y hy
        omega
      obtain ⟨r, hg, hrn, hf⟩ := turn_is hw (by rw [List.length_map])
      have hT := ev_Turn n1 n2 rfl hbad hrn hf
      have hA := amt_amounts rfl hok
      have hal : (amt (cnt l0 l0.length ++ [0]) l0.length).length = l0.length + 1 := amt_length _ _
      have hb : ∀ x ∈ amt (cnt l0 l0.length ++ [0]) l0.length, -1000000 ≤ x ∧ x ≤ 1000000 := by
        intro x hx
        rw [hA] at hx
        unfold amounts at hx
        obtain ⟨i, _, rfl⟩ := List.mem_map.1 hx
        have := List.countP_le_length (p := fun x => decide (x = l0.length - i)) (l := l0.map Int.toNat)
        rw [List.length_map] at this
        omega
      have hE : amountsE (amt (cnt l0 l0.length ++ [0]) l0.length) = 0 := by
        unfold amountsE
        rw [if_neg (by omega), if_neg]
        intro h
        obtain ⟨x, hx, hbx⟩ := List.any_eq_true.1 h
        have := hb x hx
        unfold bad at hbx
        simp at hbx
        omega
      have hS : (amt (cnt l0 l0.length ++ [0]) l0.length).sum = 1 := by rw [hA]; exact amounts_sum hw (List.length_map ..)
      have hR := ev_Raney (amt (cnt l0 l0.length ++ [0]) l0.length) (by omega)
      have hRe : raneyR (amt (cnt l0 l0.length ++ [0]) l0.length) = ((r : Int), 0) := by
        unfold raneyR goodsI
        rw [if_pos hE, if_pos hS, hal, hA, hg]; rfl
      rw [hRe] at hR
      obtain ⟨k1, e1⟩ := hT.rounds
      obtain ⟨k2, e2⟩ := hR.rounds
      refine raney_in seated_true A0 c0 l0 w hr0 n1 n2 hbad (r : Int) (fun w' hc => chairs_Turn.calls k1 _ A0 c0 l0 r 0 w' hc hc0 e1) (fun w' B c hC hc => ?_)
      have := till_Raney.calls k2 B c (amt (cnt l0 l0.length ++ [0]) l0.length) r 0 w' (by rw [hal]; exact hC) (by rw [hal]; exact hc) e2
      rwa [hal] at this

end Go.Proofs.YtldohjlcckbfaaaGreatDoor.Hand
