/- If two steps sum to 1 more than a multiple of every number from 1 to n, the customers called with the one are those called with the other, each c replaced by n - 1 - c: for all circles and steps that the statement makes; no condition. -/
import Derived.Test.YtndpnlpidphflaaPrint5
import Derived.Test.YtndpnlpidphflaaEvC
import Derived.Test.YtndpnlpidphflaaEvB
namespace Go.Proofs.Ytndpnlpidphflaa.Pure
open Go.RowKit Go.Proofs.Ytndpnlpidphflaa.Print Go.Proofs.Ytndpnlpidphflaa.Math Go.Proofs.YtndpnlpidphflaaW.PrintWords Go.Proofs.YtndpnlpidphflaaW.PrintLast Go.Proofs.YtndpnlpidphflaaW.PrintMore
set_option linter.unusedVariables false

open Go.Proofs.Ytndpnlpidphflaa.Hand
theorem rev_erase (l : List Int) (x y : Nat) (h : x + y + 1 = l.length) : l.reverse.eraseIdx y = (l.eraseIdx x).reverse := by
  rw [List.eraseIdx_eq_take_drop_succ, List.eraseIdx_eq_take_drop_succ, List.reverse_append, List.take_reverse, List.drop_reverse]
  congr 2
  · rw [show l.length - y = x + 1 by omega]
  · rw [show l.length - (y + 1) = x by omega]

theorem map_erase (f : Int → Int) (l : List Int) (x : Nat) : (l.map f).eraseIdx x = (l.eraseIdx x).map f := by
  rw [List.eraseIdx_eq_take_drop_succ, List.eraseIdx_eq_take_drop_succ, List.map_append, List.map_take, List.map_drop]

theorem jst_mirror (s o : Int) (n : Nat) (hd : ∀ l : Nat, 1 ≤ l → l ≤ n → (l : Int) ∣ s + o - 1) (i : Nat) (hi : i ≤ n) :
    (jst o n i).1 = (jst s n i).1.map (fun c => (n : Int) - 1 - c) ∧ (jst o n i).2.2 = ((jst s n i).2.2.map (fun c => (n : Int) - 1 - c)).reverse ∧ ((n - i : Nat) : Int) ∣ (jst s n i).2.1 + (jst o n i).2.1 := by
  induction i with
  | zero =>
    refine ⟨rfl, ?_, by simp [jst]⟩
    simp only [jst]
    apply List.ext_getElem
    · simp [ids_length]
    · intro j h1 h2
      rw [ids_length] at h1
      simp [ids]
      omega
  | succ i ih =>
    obtain ⟨h1, h2, h3⟩ := ih (by omega)
    have hl := jst_left s n i (by omega)
    have hlo := jst_left o n i (by omega)
    obtain ⟨L, hL⟩ : ∃ L, n - i = L := ⟨_, rfl⟩
    have hL1 : n - (i + 1) = L - 1 := by omega
    rw [hL] at hl hlo h3
    rw [hL1]
    have hdl := hd L (by omega) (by omega)
    simp only [jst, hl, hlo]
    have hx := mod_pos (a := (jst s n i).2.1 + s - 1) (b := (L : Int)) (by omega)
    have hy := mod_pos (a := (jst o n i).2.1 + o - 1) (b := (L : Int)) (by omega)
    have hxe := Int.mul_ediv_add_emod ((jst s n i).2.1 + s - 1) (L : Int)
    have hye := Int.mul_ediv_add_emod ((jst o n i).2.1 + o - 1) (L : Int)
    obtain ⟨x, hxx⟩ : ∃ x : Nat, ((jst s n i).2.1 + s - 1) % (L : Int) = x := ⟨_, (Int.toNat_of_nonneg hx.1).symm⟩
    obtain ⟨y, hyy⟩ : ∃ y : Nat, ((jst o n i).2.1 + o - 1) % (L : Int) = y := ⟨_, (Int.toNat_of_nonneg hy.1).symm⟩
    rw [hxx] at hx hxe ⊢
    rw [hyy] at hy hye ⊢
    have hsum : (x : Int) + y + 1 = L := by
      have h4 : (L : Int) ∣ x + y + 1 := by
        have e : (x : Int) + y + 1 = ((jst s n i).2.1 + (jst o n i).2.1) + (s + o - 1) - (L : Int) * (((jst s n i).2.1 + s - 1) / (L : Int) + ((jst o n i).2.1 + o - 1) / (L : Int)) := by
          rw [Int.mul_add]; omega
        rw [e]
        exact Int.dvd_sub (Int.dvd_add h3 hdl) (Int.dvd_mul_right _ _)
      obtain ⟨q, hq⟩ := h4
      have q1 : q = 1 := by
        rcases (show q ≤ 0 ∨ q = 1 ∨ 2 ≤ q by omega) with h | h | h
        · have := Int.mul_le_mul_of_nonneg_left h (show (0 : Int) ≤ L by omega)
          omega
        · exact h
        · have := Int.mul_le_mul_of_nonneg_left h (show (0 : Int) ≤ L by omega)
          omega
      rw [q1] at hq; omega
    simp only [Int.toNat_natCast]
    rw [h1, h2]
    refine ⟨?_, ?_, ?_⟩
    · rw [List.map_append, List.map_cons, List.map_nil]
      congr 2
      have hxl : x < (jst s n i).2.2.length := by omega
      have hyl : y < (((jst s n i).2.2.map (fun c => (n : Int) - 1 - c)).reverse).length := by simp; omega
      rw [List.getD_eq_getElem?_getD, List.getElem?_eq_getElem hyl, List.getD_eq_getElem?_getD, List.getElem?_eq_getElem hxl]
      simp only [Option.getD_some, List.getElem_reverse, List.getElem_map, List.length_map]
      congr 2; omega
    · rw [rev_erase _ x y (by simp; omega), map_erase]
    · rw [show (x : Int) + y = ((L - 1 : Nat) : Int) by omega]
      exact Int.dvd_refl _

theorem mir_loop (m : Nat) (a : List Int) (hm : m ≤ 2000) (ha : a.length = m) (hr : ∀ c ∈ a, -1000000 ≤ c ∧ c ≤ 1000000) (d : Nat) : ∀ i : Nat, i ≤ m → m - i ≤ d → Ev (fun f => pomadelaw06_PoleMirrored.l1 f m a (a.map (fun c => (m : Int) - 1 - c)) i) true := by
  have stop : ∀ i : Nat, m ≤ i → Ev (fun f => pomadelaw06_PoleMirrored.l1 f m a (a.map (fun c => (m : Int) - 1 - c)) i) true := by
    intro i hi
    obtain ⟨K, h⟩ := alive_true
    dsimp only at h
    refine ⟨K + 1, fun f hf => ?_⟩
    obtain ⟨g, rfl⟩ : ∃ g, f = g + 1 := ⟨f - 1, by omega⟩
    simp only [pomadelaw06_PoleMirrored.l1]
    rw [if_neg (by omega), h g (by omega)]; rfl
  induction d with
  | zero => intro i h1 h2; exact stop i (by omega)
  | succ d ih =>
    intro i h1 h2
    by_cases e : m ≤ i
    · exact stop i e
    · refine Ev.step (fun f => ?_) (ih (i + 1) (by omega) (by omega))
      have hi : i < a.length := by omega
      have hb := hr a[i] (List.getElem_mem hi)
      have ra : rd a i = a[i] := by rw [rd_nat]; simp [hi]
      have rb : rd (a.map (fun c => (m : Int) - 1 - c)) i = (m : Int) - 1 - a[i] := by rw [rd_nat]; simp [hi]
      simp only [pomadelaw06_PoleMirrored.l1]
      rw [if_pos (by omega), if_pos (by omega), if_pos (by rw [List.length_map]; omega), if_pos (by omega), ra, rb, w64 (n := (m : Int) - 1) (by omega), w64 (n := (m : Int) - 1 - a[i]) (by omega), if_pos rfl, w64 (by omega)]
      rfl

theorem erase_mem {l : List Int} {x : Nat} {c : Int} (h : c ∈ l.eraseIdx x) : c ∈ l := List.mem_of_mem_eraseIdx h
theorem jst_mem (k : Int) (n i : Nat) (hi : i ≤ n) : (∀ c ∈ (jst k n i).1, 0 ≤ c ∧ c < n) ∧ (∀ c ∈ (jst k n i).2.2, 0 ≤ c ∧ c < n) := by
  induction i with
  | zero =>
    refine ⟨fun c hc => by simp [jst] at hc, fun c hc => ?_⟩
    simp [jst, ids] at hc
    obtain ⟨a, ha, rfl⟩ := hc
    simp; omega
  | succ i ih =>
    obtain ⟨h1, h2⟩ := ih (by omega)
    have hl := jst_left k n i (by omega)
    have hm := mod_at (a := (jst k n i).2.1 + k - 1) (n := (jst k n i).2.2.length) (by omega)
    refine ⟨fun c hc => ?_, fun c hc => ?_⟩
    · simp only [jst, List.mem_append, List.mem_singleton] at hc
      rcases hc with hc | hc
      · exact h1 c hc
      · rw [hc, List.getD_eq_getElem?_getD, List.getElem?_eq_getElem hm.2.2]
        exact h2 _ (List.getElem_mem _)
    · simp only [jst] at hc
      exact h2 c (erase_mem hc)

theorem PoleMirrored : pomadelaw06_PoleMirrored.Pure := by
  intro a0 a1 w0 w1
  have b0 := wf_u8 w0
  have b1 := wf_u16 w1
  obtain ⟨m, hm⟩ : ∃ m : Nat, 1 + a0 % 6 = m := ⟨(1 + a0 % 6).toNat, by omega⟩
  obtain ⟨K1, e1⟩ := ev_common m (by omega)
  dsimp only at e1
  have hc0 : 1 ≤ comv.getD m 0 ∧ comv.getD m 0 ≤ 60 := by
    have : ∀ x : Fin 7, 1 ≤ comv.getD x.val 0 ∧ comv.getD x.val 0 ≤ 60 := by decide
    exact this ⟨m, by omega⟩
  have hd := fun l => com_div m l (by omega)
  obtain ⟨c, hce⟩ : ∃ c, comv.getD m 0 = c := ⟨_, rfl⟩
  rw [hce] at hc0 hd e1
  have hs0 := mod_pos (a := a1) (b := 900) (by omega)
  obtain ⟨s, hs⟩ : ∃ s, 1 + a1 % 900 = s := ⟨_, rfl⟩
  have hq := Int.mul_ediv_add_emod (s + c) c
  have hq2 := mod_pos (a := s + c) (b := c) (by omega)
  have hq3 := Int.ediv_nonneg (a := s + c) (b := c) (by omega) (by omega)
  have hq4 := Int.ediv_le_self (a := s + c) c (by omega)
  obtain ⟨q, hqe⟩ : ∃ q, (s + c) / c = q := ⟨_, rfl⟩
  rw [hqe] at hq hq3 hq4
  obtain ⟨o, ho⟩ : ∃ o, c * q + 1 - s = o := ⟨_, rfl⟩
  have hdo : ∀ l : Nat, 1 ≤ l → l ≤ m → (l : Int) ∣ s + o - 1 := fun l h1 h2 => by
    rw [show s + o - 1 = c * q by omega]
    exact Int.dvd_trans (hd l h1 h2) (Int.dvd_mul_right _ _)
  obtain ⟨h1, _, _⟩ := jst_mirror s o m hdo m (Nat.le_refl _)
  obtain ⟨K2, e2⟩ := mir_loop m (jst s m m).1 (by omega) (jst_out _ _ _) (fun c hc => by have := (jst_mem s m m (Nat.le_refl _)).1 c hc; omega) m 0 (by omega) (by omega)
  dsimp only at e2
  have e3 := fun f => e2 f
  refine ⟨max K1 (K2 + 3), ?_⟩
  simp only [pomadelaw06_PoleMirrored.f]
  rw [tm b0.1, w64 (n := a0 % 6) (by omega), hm, w64 (n := (m : Int)) (by omega), e1 _ (by omega)]
  simp only [Option.bind_some]
  rw [if_neg (by omega), w64 (n := a1) (by omega), tm b1.1, w64 (n := 1 + a1 % 900) (by omega), hs, w64 (n := s + c) (by omega), td (by omega), hqe, w64 (n := q) (by omega), w64 (n := c * q) (by omega), w64 (n := c * q + 1) (by omega), w64 (n := c * q + 1 - s) (by omega), ho]
  obtain ⟨g, hg⟩ : ∃ g, max K1 (K2 + 3) = g + 2 := ⟨max K1 (K2 + 3) - 2, by omega⟩
  rw [hg]
  simp only [pomadelaw06_PoleMirrored.l0]
  rw [if_neg (by omega), order_v (by unfold Circ; omega) (by omega), order_v (by unfold Circ; omega) (by omega)]
  simp only [Option.bind_some, if_true]
  rw [if_pos (by rw [jst_out])]
  simp only [pomadelaw06_PoleMirrored.j1, jst_out, bne_self_eq_false]
  rw [if_neg (by decide), h1]
  exact e2 g (by omega)

end Go.Proofs.Ytndpnlpidphflaa.Pure
