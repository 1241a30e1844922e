/- Steps and Begins of the program return what those of the reference return, for all circles, customers and lists of at most 250 customers (beyond, the statement asks for nothing); no argument is changed. -/
import Derived.Test.YtndpnlpidphflaaPrint10
import Derived.Test.YtndpnlpidphflaaEvF
import Derived.Test.YtndpnlpidphflaaEvD
namespace Go.Proofs.Ytndpnlpidphflaa.Pure
open Go.RowKit Go.Proofs.Ytndpnlpidphflaa.Print Go.Proofs.Ytndpnlpidphflaa.Math Go.Proofs.YtndpnlpidphflaaW.PrintWords Go.Proofs.YtndpnlpidphflaaW.PrintLast Go.Proofs.YtndpnlpidphflaaW.PrintMore
set_option linter.unusedVariables false

open Go.Proofs.Ytndpnlpidphflaa.Hand
theorem rsteps_l1 (n last k : Int) (hn : n ≤ 200) (hk : 1 ≤ k ∧ k ≤ 30000) (r : Int × Int) (d : Nat) : ∀ p m : Int, 0 ≤ p → p ≤ m → 1 ≤ m → m ≤ n → (n - m).toNat = d →
    Ev (fun f => if It k d p m = last then some (k, 0) else pomaderef06_Steps.l0 f n last (wrap64 (k + 1))) r → Ev (fun f => pomaderef06_Steps.l1 f n last k p (m + 1)) r := by
  induction d with
  | zero =>
    intro p m h0 h1 h2 h3 hd hr
    refine Ev.step (fun f => ?_) hr
    simp only [pomaderef06_Steps.l1]
    rw [if_neg (by omega)]
    by_cases hp : p = last
    · rw [if_pos hp, if_pos (show It k 0 p m = last from hp)]
    · rw [if_neg hp, if_neg (show ¬ It k 0 p m = last from hp)]
  | succ d ih =>
    intro p m h0 h1 h2 h3 hd hr
    have hm := mod_pos (a := p + k) (b := m + 1) (by omega)
    refine Ev.step (fun f => ?_) (ih ((p + k) % (m + 1)) (m + 1) hm.1 (by omega) (by omega) (by omega) (by omega) hr)
    simp only [pomaderef06_Steps.l1]
    rw [if_pos (by omega), if_neg (by omega), w64 (n := p + k) (by omega), tm (by omega), w64 (n := m + 1 + 1) (by omega)]

theorem rsteps_l0 (n last : Int) (h1 : 1 ≤ n) (hn : n ≤ 200) (d : Nat) : ∀ k : Int, 1 ≤ k → k + d = 30001 →
    Ev (fun f => pomaderef06_Steps.l0 f n last k) (match srch (fun k => It k (n - 1).toNat 0 1 == last) d k with | some k => (k, 0) | none => (0, 10)) := by
  induction d with
  | zero =>
    intro k hk hd
    refine Ev.step (f := fun _ => some (0, 10)) (fun f => ?_) (Ev.now _)
    simp only [pomaderef06_Steps.l0]
    rw [if_neg (by omega)]
  | succ d ih =>
    intro k hk hd
    refine Ev.step (f := fun f => pomaderef06_Steps.l1 f n last k 0 (1 + 1)) (fun f => ?_) (rsteps_l1 n last k hn (by omega) _ (n - 1).toNat 0 1 (by omega) (by omega) (by omega) (by omega) rfl ?_)
    · simp only [pomaderef06_Steps.l0]
      rw [if_pos (by omega)]
      rfl
    · simp only [srch]
      by_cases hp : It k (n - 1).toNat 0 1 = last
      · have hp2 : (It k (n - 1).toNat 0 1 == last) = true := by simpa using hp
        rw [if_pos hp2]
        simp only [if_pos hp]
        exact Ev.now _
      · have hp2 : ¬ (It k (n - 1).toNat 0 1 == last) = true := by simpa using hp
        rw [if_neg hp2]
        simp only [if_neg hp]
        rw [w64 (by omega)]
        exact ih (k + 1) (by omega) (by omega)

theorem steps_both (n last : Int) : ∃ r, Ev (fun f => pole_Steps.f f n last) r ∧ Ev (fun f => pomaderef06_Steps.f f n last) r := by
  by_cases h : 1 ≤ n ∧ n ≤ 200
  · by_cases hl : 0 ≤ last ∧ last < n
    · refine ⟨_, ev_Steps n last h.1 h.2 hl.1 hl.2, ?_⟩
      refine Ev.congr (f := fun f => pomaderef06_Steps.j0 f n last false) (fun f => ?_) (Ev.step (f := fun f => pomaderef06_Steps.j1 f n last false) (fun f => ?_) (Ev.step (fun f => ?_) (rsteps_l0 n last h.1 h.2 30000 1 (by omega) (by omega))))
      · simp only [pomaderef06_Steps.f]
        rw [if_neg (by omega), decide_eq_false (by omega)]
      · simp only [pomaderef06_Steps.j0]
        rw [if_neg (by decide), if_neg (by omega), decide_eq_false (by omega)]
      · simp only [pomaderef06_Steps.j1]
        rw [if_neg (by decide)]
    · refine ⟨(0, 4), ⟨2, fun f hf => ?_⟩, ⟨2, fun f hf => ?_⟩⟩
      · obtain ⟨g, rfl⟩ : ∃ g, f = g + 1 := ⟨f - 1, by omega⟩
        simp only [pole_Steps.f, pole_Steps.j0]
        rw [if_neg (by omega), decide_eq_false (by omega), if_neg (by decide)]
        by_cases h0 : last < 0
        · rw [if_pos h0]
        · rw [if_neg h0, if_pos (by omega)]
      · obtain ⟨g, rfl⟩ : ∃ g, f = g + 2 := ⟨f - 2, by omega⟩
        simp only [pomaderef06_Steps.f, pomaderef06_Steps.j0, pomaderef06_Steps.j1]
        rw [if_neg (by omega), decide_eq_false (by omega), if_neg (by decide)]
        by_cases h0 : last < 0
        · rw [if_pos h0, if_pos trivial]
        · rw [if_neg h0, decide_eq_true (by omega), if_pos rfl]
  · refine ⟨(0, 2), ⟨1, fun f hf => ?_⟩, ⟨1, fun f hf => ?_⟩⟩
    · obtain ⟨g, rfl⟩ : ∃ g, f = g + 1 := ⟨f - 1, by omega⟩
      simp only [pole_Steps.f, pole_Steps.j0]
      by_cases h0 : n < 1
      · rw [if_pos h0, if_pos trivial]
      · rw [if_neg h0, decide_eq_true (by omega), if_pos rfl]
    · obtain ⟨g, rfl⟩ : ∃ g, f = g + 1 := ⟨f - 1, by omega⟩
      simp only [pomaderef06_Steps.f, pomaderef06_Steps.j0]
      by_cases h0 : n < 1
      · rw [if_pos h0, if_pos trivial]
      · rw [if_neg h0, decide_eq_true (by omega), if_pos rfl]

/-! Begins of the reference. -/
theorem cmp_loop (n k : Int) (l p : List Int) (r : Int × Int) (hl : l.length ≤ 1000) (hpl : p.length = l.length) (hr : Ev (fun f => if l = p then some (k, 0) else pomaderef06_Begins.l1 f n l (wrap64 (k + 1))) r) (d : Nat) :
    ∀ (i : Nat) (b : Bool), i ≤ l.length → l.length - i = d → (b = true ↔ l.take i = p.take i) → Ev (fun f => pomaderef06_Begins.l2 f n l k p b i) r := by
  induction d with
  | zero =>
    intro i b h1 h2 hb
    obtain rfl : i = l.length := by omega
    refine Ev.step (fun f => ?_) hr
    simp only [pomaderef06_Begins.l2]
    rw [if_neg (by omega)]
    rw [List.take_length, ← hpl, List.take_length] at hb
    by_cases he : l = p
    · rw [if_pos (hb.2 he), if_pos he]
    · rw [if_neg (fun h => he (hb.1 h)), if_neg he]
  | succ d ih =>
    intro i b h1 h2 hb
    have hi : i < l.length := by omega
    have e1 := take_snoc_rd hi
    have e2 := take_snoc_rd (show i < p.length by omega)
    cases b with
    | true =>
      refine Ev.step (fun f => ?_) (ih (i + 1) (rd p (i : Int) == rd l (i : Int)) (by omega) (by omega) ?_)
      · simp only [pomaderef06_Begins.l2]
        rw [if_pos (by omega), if_pos trivial, if_pos (by omega), if_pos (by omega), w64 (by omega)]
        rfl
      · rw [e1, e2, hb.1 rfl, beq_iff_eq]
        constructor
        · intro h; rw [h]
        · intro h
          have := List.append_cancel_left h
          simpa using this.symm
    | false =>
      refine Ev.step (fun f => ?_) (ih (i + 1) false (by omega) (by omega) ?_)
      · simp only [pomaderef06_Begins.l2]
        rw [if_pos (by omega), if_neg (by decide), w64 (by omega)]
        rfl
      · have hne : ¬ l.take i = p.take i := fun h => by have := hb.2 h; cases this
        constructor
        · intro h; cases h
        · intro h
          exfalso
          rw [e1, e2] at h
          exact hne (List.append_inj_left' h rfl)

theorem rbegins_l1 (n : Nat) (l : List Int) (h1 : 1 ≤ n) (hn : n ≤ 200) (hl : l.length ≤ n) (d : Nat) : ∀ k : Int, 1 ≤ k → k + d = 30001 →
    Ev (fun f => pomaderef06_Begins.l1 f n l k) (match srch (fun k => decide (l = (jst k n l.length).1)) d k with | some k => (k, 0) | none => (0, 10)) := by
  induction d with
  | zero =>
    intro k hk hd
    refine Ev.step (f := fun _ => some (0, 10)) (fun f => ?_) (Ev.now _)
    simp only [pomaderef06_Begins.l1]
    rw [if_neg (by omega)]
  | succ d ih =>
    intro k hk hd
    have ihk := ih (k + 1) (by omega) (by omega)
    have hpl : pomaderef06_Played.f (n : Int) k (l.length : Int) = some (jst k n l.length).1 := by
      unfold pomaderef06_Played.f
      rw [if_pos (by omega), Int.toNat_natCast, Int.toNat_natCast]
    -- is the first one another
    have hj : ∀ b : Bool, (b = true → l ≠ (jst k n l.length).1) → Ev (fun f => pomaderef06_Begins.j3 f n l k b) (match srch (fun k => decide (l = (jst k n l.length).1)) (d + 1) k with | some k => (k, 0) | none => (0, 10)) := by
      intro b hb
      simp only [srch]
      by_cases he : l = (jst k n l.length).1
      · have hbf : b = false := by cases b with
          | false => rfl
          | true => exact absurd he (hb rfl)
        subst hbf
        rw [if_pos (decide_eq_true he)]
        refine Ev.step (fun f => ?_) (cmp_loop n k l (jst k n l.length).1 (k, 0) (by omega) (by rw [jst_out]) (Ev.congr (f := fun _ => some (k, 0)) (fun f => by rw [if_pos he]) (Ev.now _)) _ 0 true (by omega) rfl (by simp))
        simp only [pomaderef06_Begins.j3]
        rw [if_neg (by decide), hpl, Option.bind_some]
        rfl
      · rw [if_neg (by simpa using he)]
        cases b with
        | true =>
          refine Ev.step (fun f => ?_) ihk
          simp only [pomaderef06_Begins.j3]
          rw [if_pos trivial, w64 (by omega)]
        | false =>
          refine Ev.step (fun f => ?_) (cmp_loop n k l (jst k n l.length).1 _ (by omega) (by rw [jst_out]) (Ev.congr (fun f => by rw [if_neg he, w64 (by omega)]) ihk) _ 0 true (by omega) rfl (by simp))
          simp only [pomaderef06_Begins.j3]
          rw [if_neg (by decide), hpl, Option.bind_some]
          rfl
    by_cases hpos : 0 < l.length
    · refine Ev.step (fun f => ?_) (hj (((k - 1) % (n : Int)) != rd l 0) (fun hb he => ?_))
      · simp only [pomaderef06_Begins.l1]
        rw [if_pos (by omega), if_pos (by omega), if_neg (by omega), if_pos (by omega), w64 (n := k - 1) (by omega), tm (by omega)]
      · have h0 : rd l (0 : Int) = (k - 1) % (n : Int) := by
          rw [he]
          have := jst_rd k n l.length (by omega) 0 hpos
          rw [show ((0 : Nat) : Int) = 0 from rfl, atv_zero] at this
          exact this
        rw [h0] at hb
        simp at hb
    · refine Ev.step (fun f => ?_) (hj false (fun h => by cases h))
      simp only [pomaderef06_Begins.l1]
      rw [if_pos (by omega), if_neg (by omega)]

/-- Is a customer met before? -/
def Met (l : List Int) (i : Nat) (met : List Bool) (n : Nat) : Prop := met.length = n ∧ ∀ c : Nat, c < n → rdOf false met (c : Int) = (l.take i).contains (c : Int)

theorem rbegins_l0 (n : Nat) (l : List Int) (h1 : 1 ≤ n) (hn : n ≤ 200) (hl : l.length ≤ n) (d : Nat) : ∀ (i : Nat) (met : List Bool), i ≤ l.length → l.length - i = d → Met l i met n → (∀ j, j < i → badAt n l j = false) →
    Ev (fun f => pomaderef06_Begins.l0 f n l met i) (beginsA n l) := by
  have hA : (List.range l.length).any (badAt n l) = true → beginsA n l = (0, 2) := fun h => by
    unfold beginsA; rw [if_neg (by omega), if_neg (by omega), if_pos h]
  have hB : (List.range l.length).any (badAt n l) = false → beginsA n l = match srch (fun k => decide (l = (jst k n l.length).1)) 30000 1 with | some k => (k, 0) | none => (0, 10) := fun h => by
    unfold beginsA; rw [if_neg (by omega), if_neg (by omega), h, Int.toNat_natCast]; rfl
  induction d with
  | zero =>
    intro i met h2 h3 hm hb
    obtain rfl : i = l.length := by omega
    rw [hB (by
      rw [List.any_eq_false]
      intro i hi
      rw [hb i (List.mem_range.1 hi)]
      simp)]
    refine Ev.step (fun f => ?_) (rbegins_l1 n l h1 hn hl 30000 1 (by omega) (by omega))
    simp only [pomaderef06_Begins.l0]
    rw [if_neg (by omega)]
  | succ d ih =>
    intro i met h2 h3 hm hb
    have hi : i < l.length := by omega
    obtain ⟨v, hv⟩ : ∃ v, rd l (i : Int) = v := ⟨_, rfl⟩
    have hbad : badAt n l i = (decide (v < 0) || decide (v ≥ n) || (l.take i).contains v) := by unfold badAt; rw [hv]
    have isbad : badAt n l i = true → beginsA n l = (0, 2) := fun h => hA (List.any_eq_true.2 ⟨i, List.mem_range.2 hi, h⟩)
    by_cases c1 : v < 0
    · rw [isbad (by rw [hbad, decide_eq_true c1]; rfl)]
      refine Ev.step (f := fun _ => some (0, 2)) (fun f => ?_) (Ev.now _)
      simp only [pomaderef06_Begins.l0]
      rw [if_pos (by omega), if_pos (by omega), hv, if_pos c1]
    · by_cases c2 : v ≥ n
      · rw [isbad (by rw [hbad, decide_eq_true c2]; simp)]
        refine Ev.step (f := fun _ => some (0, 2)) (fun f => ?_) (Ev.now _)
        simp only [pomaderef06_Begins.l0]
        rw [if_pos (by omega), if_pos (by omega), hv, if_neg c1, if_pos c2]
      · obtain ⟨c, rfl⟩ : ∃ c : Nat, v = (c : Int) := ⟨v.toNat, by omega⟩
        have hmc := hm.2 c (by omega)
        have hml := hm.1
        by_cases c3 : (l.take i).contains (c : Int) = true
        · rw [isbad (by rw [hbad, c3]; simp)]
          refine Ev.step (f := fun _ => some (0, 2)) (fun f => ?_) (Ev.now _)
          simp only [pomaderef06_Begins.l0]
          rw [if_pos (by omega), if_pos (by omega), hv, if_neg c1, if_neg c2, if_pos (by omega), if_pos (by omega), hmc, if_pos c3]
        · have c3' : (l.take i).contains (c : Int) = false := by simpa using c3
          refine Ev.step (fun f => ?_) (ih (i + 1) (met.set c true) (by omega) (by omega) ?_ ?_)
          · simp only [pomaderef06_Begins.l0]
            rw [if_pos (by omega), if_pos (by omega), hv, if_neg c1, if_neg c2, if_pos (by omega), if_pos (by omega), hmc, if_neg c3, w64 (by omega), Int.toNat_natCast]
            rfl
          · refine ⟨by rw [List.length_set]; exact hml, fun c' hc' => ?_⟩
            have hold := hm.2 c' hc'
            rw [take_snoc_rd hi, hv]
            unfold rdOf at hold ⊢
            rw [Int.toNat_natCast] at hold ⊢
            rw [List.getD_eq_getElem?_getD, List.getElem?_set] at *
            by_cases e : c = c'
            · subst e
              rw [if_pos rfl, if_pos (by omega)]
              simp
            · rw [if_neg e, hold]
              have e2 : ¬ (c' : Int) = (c : Int) := by omega
              simp [e2]
          · intro j hj
            by_cases e : j = i
            · subst e
              rw [hbad, decide_eq_false c1, decide_eq_false c2, c3']; rfl
            · exact hb j (by omega)

theorem ev_rBegins (n : Int) (l : List Int) (hl : l.length ≤ 1000) : Ev (fun f => pomaderef06_Begins.f f n l) (beginsA n l) := by
  by_cases h : 1 ≤ n ∧ n ≤ 200
  · refine Ev.congr (f := fun f => pomaderef06_Begins.j0 f n l false) (fun f => ?_) ?_
    · simp only [pomaderef06_Begins.f]
      rw [if_neg (by omega), decide_eq_false (by omega)]
    · by_cases hlen : (l.length : Int) > n
      · have : beginsA n l = (0, 3) := by unfold beginsA; rw [if_neg (by omega), if_pos hlen]
        rw [this]
        refine Ev.step (f := fun _ => some (0, 3)) (fun f => ?_) (Ev.now _)
        simp only [pomaderef06_Begins.j0]
        rw [if_neg (by decide), if_pos hlen]
      · obtain ⟨m, rfl⟩ : ∃ m : Nat, n = (m : Int) := ⟨n.toNat, by omega⟩
        refine Ev.step (fun f => ?_) (rbegins_l0 m l (by omega) (by omega) (by omega) _ 0 (List.replicate m false) (by omega) rfl ⟨by simp, fun c hc => ?_⟩ (fun j hj => by omega))
        · simp only [pomaderef06_Begins.j0]
          rw [if_neg (by decide), if_neg hlen, if_pos (by omega), if_pos (by omega), Int.toNat_natCast]
          rfl
        · simp [rdOf, hc]
  · have : beginsA n l = (0, 2) := by unfold beginsA; rw [if_pos (by omega)]
    rw [this]
    refine ⟨1, fun f hf => ?_⟩
    obtain ⟨g, rfl⟩ : ∃ g, f = g + 1 := ⟨f - 1, by omega⟩
    simp only [pomaderef06_Begins.f, pomaderef06_Begins.j0]
    by_cases h0 : n < 1
    · rw [if_pos h0, if_pos trivial]
    · rw [if_neg h0, decide_eq_true (by omega), if_pos rfl]

theorem PoleSteps : pomadelaw06_PoleSteps.Pure := by
  intro n last l _ _ _ _ _
  obtain ⟨K5, h5⟩ := alive_true
  dsimp only at h5
  by_cases hl : (l.length : Int) > 250
  · refine ⟨K5, ?_⟩
    simp only [pomadelaw06_PoleSteps.f]
    rw [if_pos hl, h5 _ (Nat.le_refl _)]; rfl
  · obtain ⟨r, ⟨K1, e1⟩, ⟨K2, e2⟩⟩ := steps_both n last
    obtain ⟨K3, e3⟩ := ev_rBegins n l (by omega)
    obtain ⟨K4, e4⟩ := ev_same l l (by omega)
    dsimp only at e1 e2 e3 e4
    refine ⟨max K1 (max K2 (max K3 (max K4 K5))) + 1, ?_⟩
    obtain ⟨g, hg⟩ : ∃ g, max K1 (max K2 (max K3 (max K4 K5))) = g := ⟨_, rfl⟩
    rw [hg]
    simp only [pomadelaw06_PoleSteps.f]
    rw [if_neg hl, Option.bind_some, if_pos (by simp; omega), Option.bind_some, List.nil_append, e1 _ (by omega), Option.bind_some, e2 _ (by omega), Option.bind_some, if_pos rfl, bne_self_eq_false]
    simp only [pomadelaw06_PoleSteps.j0]
    have eb : pole_Begins.f n l = some (beginsA n l) := rfl
    rw [if_neg (by decide), eb, Option.bind_some, e3 _ (by omega), Option.bind_some, if_pos rfl, if_pos rfl, e4 _ (by omega), Option.bind_some, decide_eq_true rfl, if_pos rfl, h5 _ (by omega)]
    rfl

end Go.Proofs.Ytndpnlpidphflaa.Pure
