/- Grows is the length of what Make returns; it has no number exactly if the word makes nothing, or something too long: for all strings: no condition. -/
import Derived.Test.YtcjbnonjhahakaaDoorEvB
import Derived.Test.YtcjbnonjhahakaaDoorPrint9
namespace Go.Proofs.YtcjbnonjhahakaaDoor.Pure
open Go.RowKit Go.Proofs.YtcjbnonjhahakaaDoor.Hand Go.Proofs.YtcjbnonjhahakaaDoor.Print Go.Proofs.YtcjbnonjhahakaaDoor.Math Go.Proofs.YtcjbnonjhahakaaDoorW.PrintWords Go.Proofs.YtcjbnonjhahakaaDoorW.PrintLast Go.Proofs.YtcjbnonjhahakaaDoorW.PrintMore
set_option linter.unusedVariables false
set_option linter.unusedSimpArgs false

theorem alive_b : (pomadelaw08_alive.f.bind fun t => some t) = some true := by rw [alive_true]; rfl
theorem long_cases (w : List UInt8) : (∃ e, e ≠ 0 ∧ e ≠ 8 ∧ make w = ([], e) ∧ grows w = (0, e)) ∨ (∃ y : List UInt8, 1 ≤ y.length ∧ make w = (y, 0) ∧ grows w = (((y.length : Nat) : Int), 0)) ∨ ((make w).2 = 8 ∧ (grows w = (0, 10) ∨ grows w = (0, 4) ∨ ∃ m : Nat, 0 < m ∧ grows w = ((m : Int), 0))) := by
  unfold make grows
  by_cases h : wordE w = 0
  · have hw := wordE_ok.1 h
    rw [if_neg (show ¬ (wordE w ≠ 0) from fun hh => hh h), if_neg (show ¬ (wordE w ≠ 0) from fun hh => hh h)]
    unfold says
    cases hp : parts w with
    | none => exact .inl ⟨10, by decide, by decide, rfl, rfl⟩
    | some q =>
      obtain ⟨o, x⟩ := q
      obtain ⟨h1, h2, h3⟩ := parts_all hp
      have hx : 0 < x.length := List.length_pos_iff.2 h2
      obtain ⟨hw1, _⟩ := hw
      dsimp only
      rcases applL_err o.reverse x with e | e | e
      · refine .inr (.inl ⟨(applL o.reverse x).1, ?_, ?_, ?_⟩)
        · have hd : x.all isDig = true := by
            obtain ⟨rfl, _, _⟩ := parts_some hp
            have := (wordE_ok.1 h).2.1
            rw [List.all_append, List.all_cons, Bool.and_eq_true, Bool.and_eq_true] at this
            exact this.2.2
          exact List.length_pos_iff.2 (applL_ok hd h2 e).2
        · rw [← e]
        · exact growL_small (by omega) e
      · refine .inl ⟨10, by decide, by decide, e, growL_plan (by omega) (by rw [e])⟩
      · refine .inr (.inr ⟨by rw [e], ?_⟩)
        rcases growL_form o.reverse x.length hx with g | g | g
        · exact .inl g
        · exact .inr (.inl g)
        · exact .inr (.inr g)
  · rw [if_pos h, if_pos h]
    refine .inl ⟨wordE w, h, ?_, rfl, rfl⟩
    have h3 : digE w = 3 ∨ digE w = 0 ∨ digE w = 5 := by
      unfold digE
      split
      · exact .inl rfl
      · split
        · exact .inr (.inl rfl)
        · exact .inr (.inr rfl)
    unfold wordE
    split
    · omega
    · split <;> omega
theorem ParrotLong : pomadelaw08_ParrotLong.Pure := by
  intro a0 w0
  unfold pomadelaw08_ParrotLong.f
  by_cases c1 : (a0.size : Int) > 300
  · rw [if_pos c1, alive_b]
  · rw [if_neg c1, Make_is, Option.bind_some]
    unfold parrot_Grows.f
    rw [Option.bind_some]
    simp only [alive_b]
    rcases long_cases (L a0) with ⟨e, h1, h2, hm, hg⟩ | ⟨y, hy, hm, hg⟩ | ⟨hm, hg⟩
    · rw [hm, hg]
      dsimp only
      rw [if_neg h1, if_neg h2, if_pos rfl, if_pos rfl]
    · rw [hm, hg]
      dsimp only
      rw [if_pos rfl, if_pos rfl, if_pos (by rw [B_size]), if_pos (by omega)]
    · rw [hm]
      rw [if_neg (show ¬ ((8 : Int) = 0) by decide), if_pos rfl]
      rcases hg with g | g | ⟨m, hmp, g⟩
      · rw [g]; rfl
      · rw [g]; rfl
      · rw [g]
        dsimp only
        rw [if_pos rfl, if_pos (by omega)]

end Go.Proofs.YtcjbnonjhahakaaDoor.Pure
