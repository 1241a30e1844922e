/- Selves are the words of that length that make themselves, each once, in order: for all numbers and words: no condition. -/
import Derived.Test.YtcjbnonjhahakaaDoorEvD
import Derived.Test.YtcjbnonjhahakaaDoorFis2
namespace Go.Proofs.YtcjbnonjhahakaaDoor.Pure
open Go.RowKit Go.Proofs.YtcjbnonjhahakaaDoor.Hand Go.Proofs.YtcjbnonjhahakaaDoor.Print Go.Proofs.YtcjbnonjhahakaaDoor.Math Go.Proofs.YtcjbnonjhahakaaDoorW.PrintWords Go.Proofs.YtcjbnonjhahakaaDoorW.PrintLast Go.Proofs.YtcjbnonjhahakaaDoorW.PrintMore
set_option linter.unusedVariables false
set_option linter.unusedSimpArgs false

open Go.Proofs.YtcjbnonjhahakaaDoor.Fis
theorem alive_b : (pomadelaw08_alive.f.bind fun t => some t) = some true := by rw [alive_true]; rfl
theorem rdOf_get {xs : List ByteArray} {i : Nat} (h : i < xs.length) : rdOf ByteArray.empty xs (i : Int) = xs[i] := by
  unfold rdOf
  rw [Int.toNat_natCast, List.getD_eq_getElem?_getD, List.getElem?_eq_getElem h]; rfl
/-- What is known of a word among Selves. -/
theorem own_word {n : Nat} (hn : 1 ≤ n ∧ n ≤ 6) {y : List UInt8} (h : y ∈ selL n []) : make y = (y, 0) ∧ y.length = n := by
  obtain ⟨z, h1, h2, e, h4, h5⟩ := (selL_mem n [] y).1 h
  rw [List.nil_append] at e
  subst e
  have hw : wordE y = 0 := wordE_ok.2 ⟨by omega, h2, fun e => by rw [e, List.length_nil] at h1; omega⟩
  refine ⟨?_, h1⟩
  unfold make
  rw [if_neg (fun hh => hh hw)]
  exact Prod.ext h5 h4
theorem word_own {n : Nat} (hn : 1 ≤ n ∧ n ≤ 6) {y : List UInt8} (h : (make y).2 = 0) (h1 : (make y).1 = y) (h2 : y.length = n) : y ∈ selL n [] := by
  unfold make at h h1
  by_cases c : wordE y = 0
  · rw [if_neg (fun hh => hh c)] at h h1
    exact (selL_mem n [] y).2 ⟨y, h2, (wordE_ok.1 c).2.1, rfl, h, h1⟩
  · rw [if_pos c] at h
    exact absurd h c
theorem ParrotOwn : pomadelaw08_ParrotOwn.Pure := by
  intro a0 a1 w0 w1
  refine Ev.rounds ?_
  have ha0 : 0 ≤ a0 ∧ a0 ≤ 255 := by
    have := w0
    simp [Lit.wf, IntKind.min, IntKind.max, IntKind.signed, IntKind.bits] at this
    omega
  obtain ⟨n, hn, hn1, hn5⟩ : ∃ n : Nat, wrap64 (1 + wrap64 (Int.tmod a0 5)) = (n : Int) ∧ 1 ≤ n ∧ n ≤ 5 := by
    refine ⟨(1 + a0 % 5).toNat, ?_, by omega, by omega⟩
    rw [Int.tmod_eq_emod_of_nonneg ha0.1, w64 (n := a0 % 5) (by omega), w64 (by omega)]
    omega
  have hS : parrot_Selves.f (n : Int) = some ((selL n []).map B, 0) := by
    unfold parrot_Selves.f
    rw [if_neg (by omega), Int.toNat_natCast]
  have hlen : (selL n []).length ≤ 1000000 := by
    have h1 := selL_le n []
    have h2 : 9 ^ n ≤ 9 ^ 6 := Nat.pow_le_pow_right (by decide) (by omega)
    omega
  have hT : Ev (fun k => pomadelaw08_ParrotOwn.j0 k a1 (n : Int) ((selL n []).map B) 0 true) true :=
    Ev.step (f := fun _ => some true) (fun k => by simp only [pomadelaw08_ParrotOwn.j0, if_true]; exact alive_b) (Ev.now _)
  have h3 : n = 3 → (0 : Int) < ((selL n []).length : Int) := by
    rintro rfl
    have : ([51, 50, 51] : List UInt8) ∈ selL 3 [] := (selL_mem 3 [] _).2 ⟨[51, 50, 51], rfl, by decide, rfl, by decide +kernel, by decide +kernel⟩
    have := List.length_pos_of_mem this
    omega
  have hmk := Make_is
  have hloop : ∀ (j i : Nat) (inn : Bool), i + j = (selL n []).length → (inn = true ↔ ∃ q, q < i ∧ (selL n [])[q]? = some (L a1)) →
      Ev (fun k => pomadelaw08_ParrotOwn.l0 k a1 (n : Int) ((selL n []).map B) inn (i : Int)) true := by
    intro j
    induction j with
    | zero =>
      intro i inn hi hin
      obtain rfl : i = (selL n []).length := by omega
      refine Ev.step (f := fun _ => some true) (fun k => ?_) (Ev.now _)
      simp only [pomadelaw08_ParrotOwn.l0]
      rw [if_neg (by rw [List.length_map]; omega), Make_is, Option.bind_some]
      simp only [alive_b, List.length_map]
      have e3 : ∀ (X : Option Bool), (if (n : Int) = 3 then (if ((selL n []).length : Int) > 0 then some true else X) else some true) = some true := by
        intro X
        by_cases e : n = 3
        · rw [if_pos (by omega), if_pos (h3 e)]
        · rw [if_neg (by omega)]
      simp only [e3]
      by_cases d1 : (make (L a1)).2 = 0
      · rw [if_pos d1]
        by_cases d2 : (make (L a1)).1 = L a1
        · rw [if_pos (by rw [d2, B_L])]
          by_cases d3 : (a1.size : Int) = (n : Int)
          · rw [if_pos d3]
            have hmem := word_own (n := n) ⟨hn1, by omega⟩ d1 d2 (by rw [L_length]; omega)
            obtain ⟨q, hq, hq2⟩ := List.getElem_of_mem hmem
            have : inn = true := hin.2 ⟨q, hq, by rw [List.getElem?_eq_getElem hq, hq2]⟩
            rw [if_pos this]
          · rw [if_neg d3]
        · rw [if_neg (fun e => d2 (by rw [toL, toL, L_B] at e; exact e))]
      · rw [if_neg d1]
    | succ j ih =>
      intro i inn hi hin
      have hlt : i < (selL n []).length := by omega
      have hlt2 : i < ((selL n []).map B).length := by rw [List.length_map]; exact hlt
      obtain ⟨y, hy⟩ : ∃ y, (selL n [])[i] = y := ⟨_, rfl⟩
      have hr : rdOf ByteArray.empty ((selL n []).map B) (i : Int) = B y := by rw [rdOf_get hlt2, List.getElem_map, hy]
      have hmem : y ∈ selL n [] := hy ▸ List.getElem_mem hlt
      obtain ⟨hm, hyl⟩ := own_word (n := n) ⟨hn1, by omega⟩ hmem
      have hup : wrap64 ((i : Int) + 1) = ((i + 1 : Nat) : Int) := by rw [w64 (by omega)]; omega
      have hgi : (selL n [])[i]? = some y := by rw [List.getElem?_eq_getElem hlt, hy]
      have hbt : ((B y).toList == a1.toList) = true ↔ y = L a1 := by rw [beq_iff_eq, toL, toL, L_B]
      have hnext : Ev (fun k => if inn = true then pomadelaw08_ParrotOwn.l0 k a1 (n : Int) ((selL n []).map B) true ((i + 1 : Nat) : Int) else pomadelaw08_ParrotOwn.l0 k a1 (n : Int) ((selL n []).map B) ((B y).toList == a1.toList) ((i + 1 : Nat) : Int)) true := by
        by_cases e : inn = true
        · simp only [if_pos e]
          refine ih (i + 1) true (by omega) ⟨fun _ => ?_, fun _ => rfl⟩
          obtain ⟨q, hq, hq2⟩ := hin.1 e
          exact ⟨q, by omega, hq2⟩
        · simp only [if_neg e]
          refine ih (i + 1) _ (by omega) ⟨fun h => ⟨i, by omega, by rw [hgi, hbt.1 h]⟩, fun ⟨q, hq, hq2⟩ => ?_⟩
          by_cases hqi : q = i
          · subst hqi
            rw [hgi] at hq2
            exact hbt.2 (Option.some.inj hq2)
          · exact absurd (hin.2 ⟨q, by omega, hq2⟩) e
      refine Ev.step (fun k => ?_) hnext
      simp only [pomadelaw08_ParrotOwn.l0]
      rw [if_pos (by omega), if_pos (by omega), hr, Make_is, Option.bind_some, L_B, hm]
      dsimp only
      rw [if_pos rfl, if_pos rfl, if_pos (by rw [B_size]; omega), hup]
      by_cases hi0 : i = 0
      · subst hi0
        rw [if_neg (by omega)]
      · have hd : wrap64 ((i : Int) - 1) = ((i - 1 : Nat) : Int) := by rw [w64 (by omega)]; omega
        have hlt3 : i - 1 < ((selL n []).map B).length := by omega
        have hr2 : rdOf ByteArray.empty ((selL n []).map B) ((i - 1 : Nat) : Int) = B ((selL n [])[i - 1]'(by omega)) := by rw [rdOf_get hlt3, List.getElem_map]
        have hsort := List.pairwise_iff_getElem.1 (selL_sorted n []) (i - 1) i (by omega) hlt (by omega)
        rw [hy] at hsort
        rw [if_pos (by omega), hd, if_pos (by omega), if_pos (by omega), hr2, if_pos (show Op.bytesLess (B _).toList (B y).toList = true by rw [toL, toL, L_B, L_B]; exact hsort)]
  have hF : Ev (fun k => pomadelaw08_ParrotOwn.j0 k a1 (n : Int) ((selL n []).map B) 0 false) true := by
    refine Ev.step (fun k => ?_) (hloop _ 0 false (by rw [Nat.zero_add]) ⟨fun h => (by cases h), fun ⟨q, hq, _⟩ => absurd hq (Nat.not_lt_zero _)⟩)
    simp only [pomadelaw08_ParrotOwn.j0]
    rw [if_neg (by decide)]; rfl
  unfold pomadelaw08_ParrotOwn.f
  rw [hn, hS]
  simp only [Option.bind_some, if_true]
  by_cases c : (a1.size : Int) > 300
  · rw [decide_eq_true c]; exact hT
  · rw [decide_eq_false c]; exact hF

end Go.Proofs.YtcjbnonjhahakaaDoor.Pure
