/- Lists that are compared; orders; least common multiples. -/
import Derived.Test.YtndpnlpidphflaaPrint2
import Derived.Test.YtndpnlpidphflaaPrint4
import Derived.Test.YtndpnlpidphflaaEvA
namespace Go.Proofs.Ytndpnlpidphflaa.Pure
open Go.RowKit Go.Proofs.Ytndpnlpidphflaa.Print Go.Proofs.Ytndpnlpidphflaa.Hand Go.Proofs.Ytndpnlpidphflaa.Math Go.Proofs.YtndpnlpidphflaaW.PrintWords Go.Proofs.YtndpnlpidphflaaW.PrintLast Go.Proofs.YtndpnlpidphflaaW.PrintMore
set_option linter.unusedVariables false

theorem rd_nat (l : List Int) (i : Nat) : rd l (i : Int) = l.getD i 0 := by simp [rd]

theorem same_loop (a b : List Int) (hl : a.length = b.length) (hb : a.length ≤ 1000000000) (d : Nat) : ∀ i : Nat, i ≤ a.length → a.length - i ≤ d →
    Ev (fun f => pomadelaw06_same.l0 f a b i) (decide (a.drop i = b.drop i)) := by
  induction d with
  | zero =>
    intro i h1 h2
    have e : i = a.length := by omega
    refine Ev.step (f := fun _ => some true) (fun f => ?_) ?_
    · simp only [pomadelaw06_same.l0]; rw [if_neg (by omega)]
    · rw [List.drop_of_length_le (by omega), List.drop_of_length_le (by omega)]; exact Ev.now _
  | succ d ih =>
    intro i h1 h2
    by_cases e : i = a.length
    · refine Ev.step (f := fun _ => some true) (fun f => ?_) ?_
      · simp only [pomadelaw06_same.l0]; rw [if_neg (by omega)]
      · rw [List.drop_of_length_le (by omega), List.drop_of_length_le (by omega)]; exact Ev.now _
    · have ha : i < a.length := by omega
      have hbb : i < b.length := by omega
      have da : a.drop i = a[i] :: a.drop (i + 1) := List.drop_eq_getElem_cons ha
      have db : b.drop i = b[i] :: b.drop (i + 1) := List.drop_eq_getElem_cons hbb
      have ra : rd a i = a[i] := by rw [rd_nat]; simp [ha]
      have rb : rd b i = b[i] := by rw [rd_nat]; simp [hbb]
      by_cases hc : a[i] = b[i]
      · have := ih (i + 1) (by omega) (by omega)
        refine Ev.step (fun f => ?_) (show Ev (fun f => pomadelaw06_same.l0 f a b ((i + 1 : Nat) : Int)) _ from ?_)
        · simp only [pomadelaw06_same.l0]
          rw [if_pos (by omega), if_pos (by omega), if_pos (by omega), ra, rb, if_pos hc, w64 (by omega)]
          rfl
        · rw [da, db, hc]
          have e2 : (decide (b[i] :: a.drop (i + 1) = b[i] :: b.drop (i + 1))) = decide (a.drop (i + 1) = b.drop (i + 1)) := by simp only [List.cons.injEq, true_and]
          rw [e2]; exact this
      · refine Ev.step (f := fun _ => some false) (fun f => ?_) ?_
        · simp only [pomadelaw06_same.l0]
          rw [if_pos (by omega), if_pos (by omega), if_pos (by omega), ra, rb, if_neg hc]
        · rw [da, db]
          have e2 : (decide (a[i] :: a.drop (i + 1) = b[i] :: b.drop (i + 1))) = false := by simp only [List.cons.injEq, hc, false_and, decide_false]
          rw [e2]; exact Ev.now _

theorem ev_same (a b : List Int) (hb : a.length ≤ 1000000000) : Ev (fun f => pomadelaw06_same.f f a b) (decide (a = b)) := by
  by_cases hl : a.length = b.length
  · obtain ⟨K, h⟩ := same_loop a b hl hb _ 0 (by omega) (Nat.le_refl _)
    dsimp only at h
    refine ⟨K, fun f hf => ?_⟩
    simp only [pomadelaw06_same.f]
    rw [if_pos (by omega)]
    have := h f hf
    simpa using this
  · refine ⟨0, fun f hf => ?_⟩
    simp only [pomadelaw06_same.f]
    rw [if_neg (by omega), decide_eq_false (fun h => hl (by rw [h]))]

theorem listed_ok {n k : Int} (h : Circ n k) (h2 : n ≤ 2000) : pole_listed.f n k = some 0 := by
  unfold pole_listed.f; rw [circled_ok h]; simp only [Option.bind_some, if_true]; rw [if_neg (by omega)]
theorem order_v {n : Nat} {k : Int} (h : Circ n k) (h2 : n ≤ 2000) : pole_Order.f n k = some ((jst k n n).1, 0) := by
  unfold pole_Order.f
  rw [listed_ok h (by omega)]
  simp only [Option.bind_some, if_true]
  obtain ⟨h3, h4, h5, h6⟩ := h
  unfold pole_order.f
  rw [if_pos (by omega)]
  simp

theorem ev_common (m : Nat) (h : m ≤ 12) : Ev (fun f => pomadelaw06_common.f f m) (comv.getD m 0) := by
  refine Ev.of (fun k => pomadelaw06_common.mono _ k) (k := 200) ?_
  have : ∀ m : Fin 13, pomadelaw06_common.f 200 (m.val : Int) = some (comv.getD m.val 0) := by decide +kernel
  exact this ⟨m, by omega⟩

theorem com_div (m l : Nat) (hm : m ≤ 12) (h1 : 1 ≤ l) (h2 : l ≤ m) : (l : Int) ∣ comv.getD m 0 := com_dvd ⟨m, by omega⟩ ⟨l, by omega⟩ h1 h2

/-- Two steps that part by a multiple of every number from 1 to n. -/
theorem jst_period (k c : Int) (n : Nat) (hc : ∀ l : Nat, 1 ≤ l → l ≤ n → (l : Int) ∣ c) (i : Nat) (hi : i ≤ n) : jst (k + c) n i = jst k n i := by
  induction i with
  | zero => rfl
  | succ i ih =>
    have e := ih (by omega)
    have hl := jst_left k n i (by omega)
    obtain ⟨q, hq⟩ := hc (jst k n i).2.2.length (by omega) (by omega)
    have em : ((jst k n i).2.1 + (k + c) - 1) % ((jst k n i).2.2.length : Int) = ((jst k n i).2.1 + k - 1) % ((jst k n i).2.2.length : Int) := by
      rw [show (jst k n i).2.1 + (k + c) - 1 = ((jst k n i).2.1 + k - 1) + c by omega, hq, Int.add_mul_emod_self_left]
    simp only [jst, e, em]

theorem jst_one (n : Nat) (i : Nat) (hi : i ≤ n) : jst 1 n i = (ids i, 0, (ids n).drop i) := by
  induction i with
  | zero => simp [jst, ids]
  | succ i ih =>
    have e := ih (by omega)
    have hl : ((ids n).drop i).length = n - i := by simp [ids_length]
    simp only [jst, e, hl]
    have hx : (0 + 1 - 1 : Int) % ((n - i : Nat) : Int) = 0 := by simp
    rw [hx, ids_succ]
    have hd : (ids n).drop i = (i : Int) :: (ids n).drop (i + 1) := by
      rw [List.drop_eq_getElem_cons (by rw [ids_length]; omega)]
      simp [ids]
    rw [hd]; simp
end Go.Proofs.Ytndpnlpidphflaa.Pure
