/- Begins of one customer is its number plus 1; the Order of the step that Begins returns begins with the customers that were asked for; the beginning of an Order has a step that is not greater: for all circles, steps and customers that the statement makes; no condition. -/
import Derived.Test.YtndpnlpidphflaaPrint8
import Derived.Test.YtndpnlpidphflaaEvF
namespace Go.Proofs.Ytndpnlpidphflaa.Pure
open Go.RowKit Go.Proofs.Ytndpnlpidphflaa.Print Go.Proofs.Ytndpnlpidphflaa.Math Go.Proofs.YtndpnlpidphflaaW.PrintWords Go.Proofs.YtndpnlpidphflaaW.PrintLast Go.Proofs.YtndpnlpidphflaaW.PrintMore
set_option linter.unusedVariables false

open Go.Proofs.Ytndpnlpidphflaa.Hand
theorem not_bad (n : Nat) (l : List Int) (hn : 1 ≤ n ∧ n ≤ 200) (hl : l.length ≤ n) (hr : ∀ c ∈ l, 0 ≤ c ∧ c < n) (hd : l.Nodup) :
    beginsA n l = match Math.srch (fun k => decide (l = (jst k n l.length).1)) 30000 1 with | some k => (k, 0) | none => (0, 10) := by
  have hany : (List.range l.length).any (badAt n l) = false := by
    rw [List.any_eq_false]
    intro i hi
    have hi := List.mem_range.1 hi
    have hrd : rd l (i : Int) = l[i] := by rw [rd_nat]; simp [hi]
    have := hr l[i] (List.getElem_mem hi)
    have hc : (l.take i).contains l[i] = false := by
      rw [Bool.eq_false_iff]
      intro hcc
      have hm := List.contains_iff_mem.1 hcc
      obtain ⟨j, hj, he⟩ := List.mem_iff_getElem.1 hm
      have hj2 : j < i := by simp at hj; omega
      rw [List.getElem_take] at he
      have := (List.nodup_iff_pairwise_ne.1 hd)
      have := List.pairwise_iff_getElem.1 this j i (by omega) hi hj2
      exact this he
    unfold badAt
    rw [hrd, hc]
    simp; omega
  unfold beginsA
  rw [if_neg (by omega), if_neg (by omega), hany, Int.toNat_natCast]
  rfl

theorem begins_one (n : Nat) (c : Int) (hn : 1 ≤ n ∧ n ≤ 200) (hc0 : 0 ≤ c ∧ c < n) : beginsA n [c] = (c + 1, 0) := by
  have hj1 : ∀ k : Int, (jst k n 1).1 = [(k - 1) % (n : Int)] := fun k => by
    have := jst_atv k n 1 (by omega)
    rw [this]
    simp [atv_zero]
  rw [not_bad n [c] (by omega) (by simp; omega) (fun x hx => by simp at hx; subst hx; omega) (by simp)]
  obtain ⟨r, hr, hle⟩ := srch_le (fun k => decide ([c] = (jst k n [c].length).1)) 30000 1 (c + 1) (by omega) (by omega) (by
    show decide ([c] = (jst (c + 1) n 1).1) = true
    rw [hj1, Int.emod_eq_of_lt (by omega) (by omega)]
    simp)
  rw [hr]
  obtain ⟨p1, p2, p3, _⟩ := srch_some _ _ _ _ hr
  have p1 : [c] = (jst r n 1).1 := of_decide_eq_true p1
  rw [hj1, Int.emod_eq_of_lt (by omega) (by omega)] at p1
  have : c = r - 1 := by simpa using p1
  show (r, (0 : Int)) = _
  congr 1; omega

theorem begins_two (n m : Nat) (s : Int) (first : List Int) (hn : 1 ≤ n ∧ n ≤ 200) (hm0 : m ≤ n) (hs : 1 ≤ s ∧ s ≤ 1000) (hf : (jst s n m).1 = first) (hfl : first.length = m) : ∃ b, beginsA n first = (b, 0) ∧ 1 ≤ b ∧ b ≤ s ∧ first = (jst b n m).1 := by
  rw [not_bad n first (by omega) (by omega) (fun x hx => (by
    rw [← hf, jst_atv s n m (by omega)] at hx
    obtain ⟨t, ht, rfl⟩ := List.mem_map.1 hx
    have ht := List.mem_range.1 ht
    have := atv_range (n : Int) s t (by omega) (by omega)
    omega)) (by rw [← hf]; exact jst_nodup s n m (by omega)), hfl]
  obtain ⟨r, hr, hle⟩ := srch_le (fun k => decide (first = (jst k n m).1)) 30000 1 s (by omega) (by omega) (by simp [hf])
  rw [hr]
  obtain ⟨p1, p2, p3, _⟩ := srch_some _ _ _ _ hr
  exact ⟨r, rfl, p2, hle, of_decide_eq_true p1⟩

theorem PoleBegins : pomadelaw06_PoleBegins.Pure := by
  intro a0 a1 a2 a3 w0 w1 w2 w3
  have b0 := wf_u8 w0
  have b1 := wf_u8 w1
  have b2 := wf_u16 w2
  have b3 := wf_u8 w3
  obtain ⟨n, hn⟩ : ∃ n : Nat, 1 + a0 % 200 = n := ⟨(1 + a0 % 200).toNat, by omega⟩
  obtain ⟨s, hs⟩ : ∃ s, 1 + a2 % 1000 = s := ⟨_, rfl⟩
  have hc0 := mod_pos (a := a1) (b := (n : Int)) (by omega)
  obtain ⟨c, hc⟩ : ∃ c, a1 % (n : Int) = c := ⟨_, rfl⟩
  have hm0 := mod_pos (a := a3) (b := (n : Int) + 1) (by omega)
  obtain ⟨m, hm⟩ : ∃ m : Nat, a3 % ((n : Int) + 1) = m := ⟨(a3 % ((n : Int) + 1)).toNat, by omega⟩
  rw [hc] at hc0
  rw [hm] at hm0
  have one := begins_one n c (by omega) hc0
  obtain ⟨first, hf⟩ : ∃ first, (jst s n m).1 = first := ⟨_, rfl⟩
  have hfl : first.length = m := by rw [← hf, jst_out]
  have two := begins_two n m s first (by omega) (by omega) (by omega) hf hfl
  obtain ⟨b, hb, hb1, hb2, hb3⟩ := two
  have htk : (jst b n n).1.take m = first := by
    have := jst_take b n m (n - m)
    rw [show m + (n - m) = n by omega] at this
    rw [this, hb3]
  obtain ⟨K1, e1⟩ := ev_same first first (by omega)
  obtain ⟨K5, h5⟩ := alive_true
  dsimp only at e1 h5
  refine ⟨max K1 K5 + 3, ?_⟩
  obtain ⟨g, hg⟩ : ∃ g, max K1 K5 = g := ⟨_, rfl⟩
  rw [hg]
  simp only [pomadelaw06_PoleBegins.f]
  rw [tm b0.1, w64 (n := a0 % 200) (by omega), hn, w64 (n := (n : Int)) (by omega), if_neg (by omega), w64 (n := a1) (by omega), tm b1.1, hc]
  have eb : pole_Begins.f (n : Int) [c] = some (c + 1, 0) := by unfold pole_Begins.f; rw [one]
  rw [eb]
  simp only [Option.bind_some, if_true]
  rw [w64 (n := c + 1) (by omega)]
  simp only [bne_self_eq_false, pomadelaw06_PoleBegins.j0]
  rw [if_neg (by decide), step_v b2, hs, w64 (n := (n : Int) + 1) (by omega), w64 (n := a3) (by omega), tm b3.1, hm, Option.bind_some, if_neg (by omega)]
  have ep : pomaderef06_Played.f (n : Int) s (m : Int) = some first := by unfold pomaderef06_Played.f; rw [if_pos (by omega)]; simp [hf]
  have eb2 : pole_Begins.f (n : Int) first = some (b, 0) := by unfold pole_Begins.f; rw [hb]
  rw [ep]
  simp only [Option.bind_some]
  rw [eb2]
  simp only [Option.bind_some, if_true]
  rw [if_neg (by omega), decide_eq_false (by omega)]
  simp only [pomadelaw06_PoleBegins.j1]
  rw [if_neg (by decide), order_v (by unfold Circ; omega) (by omega)]
  simp only [Option.bind_some, if_true, jst_out, bne_self_eq_false, pomadelaw06_PoleBegins.j2]
  rw [if_neg (by decide), if_pos (by omega), if_pos (by omega), Int.toNat_natCast, hfl, htk, e1 _ (by omega)]
  simp only [Option.bind_some, decide_true, if_true]
  rw [h5 _ (by omega)]
  rfl

end Go.Proofs.Ytndpnlpidphflaa.Pure
