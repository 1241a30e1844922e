/- Operations ahead of a word make the operations of what the word makes; a word without operations and 2 makes nothing: for all strings: no condition. -/
import Derived.Test.YtcjbnonjhahakaaDoorEvB
import Derived.Test.YtcjbnonjhahakaaDoorPrint13
namespace Go.Proofs.YtcjbnonjhahakaaDoor.Pure
open Go.RowKit Go.Proofs.YtcjbnonjhahakaaDoor.Hand Go.Proofs.YtcjbnonjhahakaaDoor.Print Go.Proofs.YtcjbnonjhahakaaDoor.Math Go.Proofs.YtcjbnonjhahakaaDoorW.PrintWords Go.Proofs.YtcjbnonjhahakaaDoorW.PrintLast Go.Proofs.YtcjbnonjhahakaaDoorW.PrintMore
set_option linter.unusedVariables false
set_option linter.unusedSimpArgs false

theorem alive_b : (pomadelaw08_alive.f.bind fun t => some t) = some true := by rw [alive_true]; rfl
theorem split_at {w : List UInt8} {i : Nat} (hi : (w.take i).all isOp = true) (hn : ∀ c, w[i]? = some c → isOp c = false) (hl : i ≤ w.length) : (w.takeWhile isOp).length = i ∧ w.dropWhile isOp = w.drop i := by
  have e := List.take_append_drop i w
  have h1 : (w.drop i).takeWhile isOp = [] ∧ (w.drop i).dropWhile isOp = w.drop i := by
    cases hd : w.drop i with
    | nil => exact ⟨rfl, rfl⟩
    | cons c cs =>
      have hc : w[i]? = some c := by
        have : (w.drop i)[0]? = some c := by rw [hd]; rfl
        rwa [List.getElem?_drop, Nat.add_zero] at this
      have hf := hn c hc
      rw [List.takeWhile_cons, List.dropWhile_cons, hf]
      exact ⟨rfl, rfl⟩
  have h2 := takeWhile_append_all (v := w.drop i) hi
  have h3 := dropWhile_append_all (v := w.drop i) hi
  rw [e, h1.1, List.append_nil] at h2
  rw [e, h1.2] at h3
  exact ⟨by rw [h2, List.length_take]; omega, h3⟩
theorem ParrotWords : pomadelaw08_ParrotWords.Pure := by
  intro a0 a1 w0 w1
  refine Ev.rounds ?_
  have hT : Ev (fun k => pomadelaw08_ParrotWords.j0 k a0 a1 true) true :=
    Ev.step (f := fun _ => some true) (fun k => by simp only [pomadelaw08_ParrotWords.j0, if_true]; exact alive_b) (Ev.now _)
  have h0 : opsE (L a0) = 0 → wordE (L a1) = 0 → Ev (fun k => pomadelaw08_ParrotWords.j0 k a0 a1 false) true := by
    intro ho hw
    have hwk := wordE_ok.1 hw
    have hl1 := hwk.1
    have hl0 := (opsE_ok.1 ho).1
    rw [L_length] at hl0 hl1
    obtain ⟨m, hm⟩ : ∃ m, make (L a1) = m := ⟨_, rfl⟩
    have h6T : ∀ x5, Ev (fun k => pomadelaw08_ParrotWords.j6 k a0 a1 x5 true) true := fun x5 =>
      Ev.step (f := fun _ => some true) (fun k => by simp only [pomadelaw08_ParrotWords.j6, if_true]; exact alive_b) (Ev.now _)
    have h6 : m.2 = 0 → m.1.length ≤ 200 → a0.size + a1.size ≤ 200 → Ev (fun k => pomadelaw08_ParrotWords.j6 k a0 a1 (B m.1) false) true := by
      intro e1 e2 e3
      have hah := make_ahead ho hw (by rw [L_length, L_length]; exact e3) (by rw [hm]; exact e1) (by rw [hm]; exact e2)
      rw [hm] at hah
      refine Ev.step (f := fun _ => some true) (fun k => ?_) (Ev.now _)
      simp only [pomadelaw08_ParrotWords.j6]
      rw [if_neg (by decide), if_pos (by omega), Make_is, Option.bind_some, Apply_is, Option.bind_some, L_append, L_B, hah, if_pos rfl, if_pos rfl, alive_b]
    have h5 : Ev (fun k => pomadelaw08_ParrotWords.j5 k a0 a1 (B m.1) m.2 false) true := by
      by_cases e1 : m.2 = 0
      · by_cases e2 : ((B m.1).size : Int) > 200
        · refine Ev.step (fun k => ?_) (h6T (B m.1))
          simp only [pomadelaw08_ParrotWords.j5]
          rw [if_neg (by decide), if_pos e1, if_pos e2]
        · by_cases e3 : wrap64 ((a0.size : Int) + (a1.size : Int)) > 200
          · refine Ev.step (fun k => ?_) (h6T (B m.1))
            simp only [pomadelaw08_ParrotWords.j5]
            rw [if_neg (by decide), if_pos e1, if_neg e2, decide_eq_true e3]
          · rw [B_size] at e2
            have e4 : a0.size + a1.size ≤ 200 := by rw [w64 (by omega)] at e3; omega
            refine Ev.step (fun k => ?_) (h6 e1 (by omega) e4)
            simp only [pomadelaw08_ParrotWords.j5]
            rw [if_neg (by decide), if_pos e1, if_neg (by rw [B_size]; exact e2), decide_eq_false e3]
      · refine Ev.step (fun k => ?_) (h6T (B m.1))
        simp only [pomadelaw08_ParrotWords.j5]
        rw [if_neg (by decide), if_neg e1]
    have h4 : Ev (fun k => pomadelaw08_ParrotWords.j4 k a0 a1 (B m.1) m.2 false) true := by
      refine Ev.step (fun k => ?_) h5
      simp only [pomadelaw08_ParrotWords.j4]
      rw [if_neg (by decide), if_pos (by omega), Make_is, Option.bind_some, L_append]
      by_cases c : (a1.size : Int) < 200
      · have h2 : make (L (⟨#[50]⟩ : ByteArray) ++ L a1) = (L a1, 0) := (make_two (w := L a1) hw (by rw [L_length]; omega) :)
        have hbne : ((B (L a1)).toList != a1.toList) = false := by rw [B_L, bne_self_eq_false]
        rw [if_pos c, h2]
        dsimp only
        rw [if_pos rfl, hbne]
      · rw [if_neg c]
    have h3T : Ev (fun k => pomadelaw08_ParrotWords.j3 k a0 a1 (B m.1) m.2 true) true := by
      refine Ev.step (fun k => ?_) h4
      simp only [pomadelaw08_ParrotWords.j3, if_true]
    have h3F : m.2 = 10 → Ev (fun k => pomadelaw08_ParrotWords.j3 k a0 a1 (B m.1) m.2 false) true := by
      intro e
      refine Ev.step (fun k => ?_) h4
      simp only [pomadelaw08_ParrotWords.j3]
      have : (m.2 != 10) = false := by rw [e]; rfl
      rw [if_neg (by decide), this]
    have h2 : ∀ i : Nat, i ≤ a1.size → ((L a1).take i).all isOp = true → (∀ c, (L a1)[i]? = some c → isOp c = false) → Ev (fun k => pomadelaw08_ParrotWords.j2 k a0 a1 (B m.1) m.2 i) true := by
      intro i hi ha hn
      have hsp := split_at ha hn (by rw [L_length]; exact hi)
      have hun : ¬ (i + 1 < (L a1).length ∧ ((L a1).drop i).head? = some 50) → m.2 = 10 := by
        intro h
        rw [← hm, make_unsaid hw (by rw [hsp.1, hsp.2]; exact h)]
      have hup : wrap64 ((i : Int) + 1) = ((i + 1 : Nat) : Int) := by rw [w64 (by omega)]; omega
      by_cases c : i + 1 < a1.size
      · have hlt : i < a1.size := by omega
        have hb := bt_nat a1 i hlt
        have hhd : ((L a1).drop i).head? = some (a1[i]'hlt) := by rw [drop_at a1 i hlt]; rfl
        have c2 : ((i + 1 : Nat) : Int) < (a1.size : Int) := by omega
        have c3 : 0 ≤ (i : Int) := by omega
        have c4 : (i : Int) < (a1.size : Int) := by omega
        by_cases h50 : a1[i]'hlt = 50
        · refine Ev.step (fun k => ?_) h3T
          simp only [pomadelaw08_ParrotWords.j2]
          have : (bt a1 (i : Int) == 50) = true := by rw [hb, h50]; rfl
          rw [hup, if_pos c2, if_pos c3, if_pos c4, this]
        · refine Ev.step (fun k => ?_) (h3F (hun (fun h => h50 (by rw [hhd] at h; exact Option.some.inj h.2))))
          simp only [pomadelaw08_ParrotWords.j2]
          have : (bt a1 (i : Int) == 50) = false := by
            rw [hb]
            exact beq_eq_false_iff_ne.2 (fun e => h50 ((natLit _ 50).1 e))
          rw [hup, if_pos c2, if_pos c3, if_pos c4, this]
      · refine Ev.step (fun k => ?_) (h3F (hun (fun h => c (by rw [L_length] at h; exact h.1))))
        simp only [pomadelaw08_ParrotWords.j2]
        rw [hup, if_neg (by omega)]
    have hL : ∀ d i, i + d = a1.size → ((L a1).take i).all isOp = true → Ev (fun k => pomadelaw08_ParrotWords.l0 k a0 a1 (B m.1) m.2 i) true := by
      intro d
      induction d with
      | zero =>
        intro i hi ha
        obtain rfl : i = a1.size := by omega
        refine Ev.step (fun k => ?_) (h2 a1.size (Nat.le_refl _) ha (fun c hc => by rw [List.getElem?_eq_none (by rw [L_length]; exact Nat.le_refl _)] at hc; cases hc))
        simp only [pomadelaw08_ParrotWords.l0]
        rw [if_neg (by omega)]
      | succ d ih =>
        intro i hi ha
        have hlt : i < a1.size := by omega
        have c1 : (i : Int) < (a1.size : Int) := by omega
        have c2 : 0 ≤ (i : Int) := by omega
        have hb := bt_nat a1 i hlt
        have hup : wrap64 ((i : Int) + 1) = ((i + 1 : Nat) : Int) := by rw [w64 (by omega)]; omega
        have ht := take_step a1 i hlt
        have hby : (L a1)[i]? = some (a1[i]'hlt) := byte_at a1 i hlt
        obtain ⟨c, hc⟩ : ∃ c, a1[i]'hlt = c := ⟨_, rfl⟩
        rw [hc] at hb ht hby
        by_cases hop : isOp c = true
        · have hn := (isOp_iff c).1 hop
          refine Ev.step (fun k => ?_) (ih (i + 1) (by omega) (by rw [ht, List.all_append, ha]; simp [hop]))
          simp only [pomadelaw08_ParrotWords.l0]
          rw [if_pos c1, if_pos c2, hb, if_pos (by omega), if_pos (by omega), hup]
        · have hn : ¬ (51 ≤ c.toNat ∧ c.toNat ≤ 55) := fun h => hop ((isOp_iff c).2 h)
          refine Ev.step (fun k => ?_) (h2 i (by omega) ha (fun c' hc' => by rw [hby] at hc'; rw [← Option.some.inj hc']; simpa using hop))
          simp only [pomadelaw08_ParrotWords.l0]
          rw [if_pos c1, if_pos c2, hb]
          by_cases h51 : (c.toNat : Int) ≥ 51
          · rw [if_pos h51, if_neg (by omega)]
          · rw [if_neg h51]
    refine Ev.step (fun k => ?_) (hL a1.size 0 (by omega) rfl)
    simp only [pomadelaw08_ParrotWords.j0]
    rw [if_neg (by decide), Make_is, Option.bind_some, hm]; rfl
  unfold pomadelaw08_ParrotWords.f
  by_cases c1 : (a0.size : Int) > 300
  · simp only [if_pos c1]; exact hT
  · simp only [if_neg c1]
    by_cases c2 : (a1.size : Int) > 300
    · simp only [if_pos c2]; exact hT
    · simp only [if_neg c2]
      refine Ev.bind (ev_Operations a0) ?_
      by_cases ho : opsE (L a0) = 0
      · simp only [if_pos ho]
        refine Ev.bind (ev_IsWord a1) ?_
        by_cases hw : wordE (L a1) = 0
        · rw [hw]; exact h0 ho hw
        · have : (wordE (L a1) != 0) = true := bne_iff_ne.2 hw
          rw [this]; exact hT
      · simp only [if_neg ho]; exact hT

end Go.Proofs.YtcjbnonjhahakaaDoor.Pure
