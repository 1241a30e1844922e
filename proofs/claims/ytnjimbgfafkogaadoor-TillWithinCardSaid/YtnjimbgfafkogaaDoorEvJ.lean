/- What the reference's Within and Zeros come to. -/
import Derived.Test.YtnjimbgfafkogaaDoorEvD
import Derived.Test.YtnjimbgfafkogaaDoorMathD
import Derived.Test.YtnjimbgfafkogaaDoorPrint11
namespace Go.Proofs.YtnjimbgfafkogaaDoor.Pure
open Go.RowKit Go.Proofs.YtnjimbgfafkogaaDoor.Hand Go.Proofs.YtnjimbgfafkogaaDoor.Pre Go.Proofs.YtnjimbgfafkogaaDoor.Bal Go.Proofs.YtnjimbgfafkogaaDoor.Base Go.Proofs.YtnjimbgfafkogaaDoor.Print Go.Proofs.YtnjimbgfafkogaaDoor.Math Go.Proofs.YtnjimbgfafkogaaDoorW.PrintWords Go.Proofs.YtnjimbgfafkogaaDoorW.PrintLast Go.Proofs.YtnjimbgfafkogaaDoorW.PrintMore
set_option linter.unusedVariables false
set_option linter.unusedSimpArgs false

theorem W_unbound (lo hi f : Int) (s : Nat) (hlo : lo + s ≤ f) (hhi : f + s ≤ hi) (t : Int) (ht : lo - 1 ≤ t) : W lo hi f s t = V s (t - f) := by
  have h := W_reflect lo hi f (by omega) s hhi t ht
  rw [V_far s (2 * (lo - 1) - t - f) (by omega)] at h
  omega
def sumW (s : Nat) : Nat → Nat
  | 0 => 0
  | e + 1 => sumW s e + W 1 60 1 s ((e + 1 : Nat) : Int)
theorem sumW_eq (s : Nat) (hs : s ≤ 59) : ∀ e, e ≤ 60 → sumW s e + (V s (e : Int) + V s ((e : Int) + 1)) = V s 0 + V s 1
  | 0, _ => by simp [sumW]
  | e + 1, he => by
    have ih := sumW_eq s hs e (by omega)
    have h := W_reflect 1 60 1 (by omega) s (by omega) ((e + 1 : Nat) : Int) (by omega)
    rw [show 2 * ((1 : Int) - 1) - ((e + 1 : Nat) : Int) - 1 = -((e : Int) + 1 + 1) by omega, V_neg, show ((e + 1 : Nat) : Int) - 1 = (e : Int) by omega] at h
    rw [sumW, Int.natCast_succ]
    rw [Int.natCast_succ] at h
    omega
theorem sumW_mono (s : Nat) : ∀ e d, sumW s e ≤ sumW s (e + d)
  | e, 0 => Nat.le_refl _
  | e, d + 1 => Nat.le_trans (sumW_mono s e d) (Nat.le_add_right _ _)
/-- All ways never back below: half of the middle number. -/
theorem sumW_mid (m : Nat) (h1 : 1 ≤ m) (hm : m ≤ 30) : 2 * sumW (2 * m - 1) 60 = C (2 * m) m := by
  have h := sumW_eq (2 * m - 1) (by omega) 60 (Nat.le_refl _)
  rw [V_far _ ((60 : Nat) : Int) (.inl (by omega)), V_far _ (((60 : Nat) : Int) + 1) (.inl (by omega)), V_odd _ 0 (by omega)] at h
  have h2 := V_choose (2 * m) m
  rw [show 2 * (m : Int) - ((2 * m : Nat) : Int) = 0 by omega] at h2
  obtain ⟨q, rfl⟩ : ∃ q, m = q + 1 := ⟨m - 1, by omega⟩
  rw [show 2 * (q + 1) = (2 * (q + 1) - 1) + 1 by omega, V] at h2
  have h3 := V_neg (2 * (q + 1) - 1) 1
  rw [show (0 : Int) - 1 = -1 by omega, show (0 : Int) + 1 = 1 by omega, h3] at h2
  rw [show 2 * (q + 1) = (2 * (q + 1) - 1) + 1 by omega, ← h2, show (2 * (q + 1) - 1) + 1 - 1 = 2 * (q + 1) - 1 by omega]
  omega

/-! The reference's Within. -/
def nx (a : Nat → Nat) (X j : Nat) : Nat := (if j + 1 < X then a (j + 1) else 0) + (if 1 ≤ j ∧ j ≤ X then a (j - 1) else 0)
theorem nx_succ (a : Nat → Nat) (X j : Nat) : nx a (X + 1) j = nx a X j + (if j + 1 = X then a X else 0) + (if j = X + 1 then a X else 0) := by
  unfold nx
  by_cases h1 : j + 1 = X
  · subst h1
    rw [if_pos (by omega), if_neg (c := j + 1 < j + 1) (by omega), if_pos rfl, if_neg (c := j = j + 1 + 1) (by omega)]
    by_cases h2 : 1 ≤ j
    · rw [if_pos (by omega), if_pos (by omega)]; omega
    · rw [if_neg (by omega), if_neg (by omega)]; omega
  · rw [if_neg h1]
    by_cases h2 : j = X + 1
    · subst h2
      rw [if_neg (by omega), if_neg (c := X + 1 + 1 < X) (by omega), if_pos (by omega), if_neg (by omega), if_pos rfl]
      simp
    · rw [if_neg h2]
      by_cases h3 : j + 1 < X
      · rw [if_pos (by omega), if_pos h3]
        by_cases h4 : 1 ≤ j
        · rw [if_pos (by omega), if_pos (by omega)]; omega
        · rw [if_neg (by omega), if_neg (by omega)]
      · rw [if_neg (by omega), if_neg h3]
        by_cases h4 : 1 ≤ j ∧ j ≤ X
        · rw [if_pos (by omega), if_pos h4]; omega
        · rw [if_neg (by omega), if_neg h4]
def nRow (a : Nat → Nat) (m X : Nat) : List Int := tabF (fun j => ((nx a X j : Nat) : Int)) m
def nMid (a : Nat → Nat) (m X : Nat) : List Int := tabF (fun j => ((nx a X j + (if j + 1 = X then a X else 0) : Nat) : Int)) m
theorem nRow_start (a : Nat → Nat) (m : Nat) : List.replicate m (0 : Int) = nRow a m 0 := by
  rw [replicate_tabF]
  exact tabF_congr fun j _ => by unfold nx; rw [if_neg (by omega), if_neg (by omega)]; rfl
theorem nMid_zero' (a : Nat → Nat) (m X : Nat) (h : X = 0) : nRow a m X = nMid a m X := tabF_congr fun j _ => by rw [if_neg (by omega)]; rfl
theorem nMid_set' (a : Nat → Nat) (m X : Nat) (hX : 1 ≤ X) (v : Int) (hv : v = ((nx a X (X - 1) + a X : Nat) : Int)) : (nRow a m X).set (X - 1) v = nMid a m X := by
  unfold nRow nMid
  rw [tabF_set]
  refine tabF_congr fun j _ => ?_
  by_cases e : j = X - 1
  · subst e; rw [if_pos rfl, if_pos (by omega), hv]
  · rw [if_neg e, if_neg (by omega)]; rfl
theorem nRow_set (a : Nat → Nat) (m X : Nat) (v : Int) (hv : v = ((nx a X (X + 1) + a X : Nat) : Int)) : (nMid a m X).set (X + 1) v = nRow a m (X + 1) := by
  unfold nRow nMid
  rw [tabF_set]
  refine tabF_congr fun j _ => ?_
  by_cases e : j = X + 1
  · subst e; rw [if_pos rfl, hv, nx_succ, if_neg (by omega), if_pos rfl]; simp only [Nat.add_zero]
  · rw [if_neg e, nx_succ, if_neg (c := j = X + 1) e]; simp only [Nat.add_zero]
theorem nRow_last (a : Nat → Nat) (m X : Nat) (h : m ≤ X + 1) : nMid a m X = nRow a m (X + 1) := tabF_congr fun j hj => by rw [nx_succ, if_neg (c := j = X + 1) (by omega)]; simp only [Nat.add_zero]
theorem nRow_length (a : Nat → Nat) (m X : Nat) : (nRow a m X).length = m := tabF_length _ _
theorem nMid_length (a : Nat → Nat) (m X : Nat) : (nMid a m X).length = m := tabF_length _ _
section
variable (lo hi f : Int)
def aW (s : Nat) (j : Nat) : Nat := W lo hi f s (lo + j)
def wRow (m s : Nat) : List Int := tabF (fun j => ((aW lo hi f s j : Nat) : Int)) m
theorem wRow_length (m s : Nat) : (wRow lo hi f m s).length = m := tabF_length _ _
theorem aW_le (s j : Nat) (hs : s ≤ 60) : aW lo hi f s j ≤ 118264581564861424 := Nat.le_trans (W_le_V _ _ _ _ _) (V_small _ _ hs)
theorem nRow_end (m s : Nat) (hm : (m : Int) = hi - lo + 1) : nRow (aW lo hi f s) m m = wRow lo hi f m (s + 1) := tabF_congr fun j hj => by
  unfold aW
  rw [W, if_pos (by omega)]
  unfold nx
  have e1 : (if j + 1 < m then W lo hi f s (lo + ((j + 1 : Nat) : Int)) else 0) = W lo hi f s (lo + j + 1) := by
    by_cases h : j + 1 < m
    · rw [if_pos h, Int.natCast_succ, Int.add_assoc]
    · rw [if_neg h, W_out _ _ _ _ _ (by omega)]
  have e2 : (if 1 ≤ j ∧ j ≤ m then W lo hi f s (lo + ((j - 1 : Nat) : Int)) else 0) = W lo hi f s (lo + j - 1) := by
    by_cases h : 1 ≤ j
    · rw [if_pos (by omega), show lo + ((j - 1 : Nat) : Int) = lo + j - 1 by omega]
    · rw [if_neg (by omega), W_out _ _ _ _ _ (by omega)]
  dsimp only
  rw [e1, e2, Nat.add_comm]
theorem wRow_start (m : Nat) (hm : (m : Int) = hi - lo + 1) (h1 : lo ≤ f) (h2 : f ≤ hi) : (List.replicate m (0 : Int)).set (f - lo).toNat 1 = wRow lo hi f m 0 := by
  rw [replicate_tabF]
  unfold wRow
  rw [tabF_set]
  refine tabF_congr fun j hj => ?_
  unfold aW
  rw [W]
  by_cases e : j = (f - lo).toNat
  · rw [if_pos e, if_pos (by omega)]; rfl
  · rw [if_neg e, if_neg (by omega)]; rfl
theorem rd_wRow (m s j : Nat) (hj : j < m) : rd (wRow lo hi f m s) (j : Int) = ((aW lo hi f s j : Nat) : Int) := rd_tabF _ _ _ hj
theorem nx_le (a : Nat → Nat) (M X j : Nat) (ha : ∀ j, a j ≤ M) : nx a X j ≤ 2 * M := by
  unfold nx
  have h1 := ha (j + 1)
  have h2 := ha (j - 1)
  split <;> split <;> omega
theorem ev_W_l2 (m : Nat) (n t : Int) (s : Nat) (hs : s ≤ 60) (hm : m ≤ 200) (hm2 : (m : Int) = hi - lo + 1) (v : Int × Int) (hv : Ev (fun k => pomaderef09_Within.l1 k n t lo (wRow lo hi f m (s + 1)) (wrap64 ((s : Int) + 1))) v) :
    ∀ d X, X + d = m → Ev (fun k => pomaderef09_Within.l2 k n t lo (wRow lo hi f m s) s (nRow (aW lo hi f s) m X) X) v := by
  intro d
  induction d with
  | zero =>
    intro X hX
    obtain rfl : X = m := by omega
    refine Ev.step (fun k => ?_) hv
    rw [← nRow_end lo hi f X s hm2]
    simp only [pomaderef09_Within.l2]
    rw [if_neg (by rw [wRow_length]; omega)]
  | succ d ih =>
    intro X hX
    have h1 := ih (X + 1) (by omega)
    have ha : ∀ j, aW lo hi f s j ≤ 118264581564861424 := fun j => aW_le lo hi f s j hs
    have hup : wrap64 ((X : Int) + 1) = ((X + 1 : Nat) : Int) := by rw [w64 (by omega)]; omega
    have rX := rd_wRow lo hi f m s X (by omega)
    have l1 := wRow_length lo hi f m s
    have l2 := nRow_length (aW lo hi f s) m X
    have l3 := nMid_length (aW lo hi f s) m X
    have e16 : wrap64 (rd (nMid (aW lo hi f s) m X) ((X + 1 : Nat) : Int) + ((aW lo hi f s X : Nat) : Int)) = ((nx (aW lo hi f s) X (X + 1) + aW lo hi f s X : Nat) : Int) ∨ ¬ X + 1 < m := by
      by_cases c : X + 1 < m
      · refine .inl ?_
        rw [show rd (nMid (aW lo hi f s) m X) ((X + 1 : Nat) : Int) = ((nx (aW lo hi f s) X (X + 1) + (if X + 1 + 1 = X then aW lo hi f s X else 0) : Nat) : Int) from rd_tabF _ _ _ c, if_neg (by omega), Nat.add_zero]
        have := nx_le (aW lo hi f s) _ X (X + 1) ha
        have := ha X
        rw [w64 (by omega)]; omega
      · exact .inr c
    by_cases hX0 : X = 0
    · have hz := nMid_zero' (aW lo hi f s) m X hX0
      refine Ev.step (fun k => ?_) h1
      simp only [pomaderef09_Within.l2]
      rw [if_pos (by rw [l1]; omega), if_neg (show ¬ (X : Int) > 0 by omega), hz, hup, l1, l3]
      by_cases c : X + 1 < m
      · rw [if_pos (by omega), if_pos (by omega), if_pos (by omega), if_pos (by omega), rX, e16.resolve_right (fun h => h c), Int.toNat_natCast, nRow_set _ _ _ _ rfl]
      · rw [if_neg (by omega), nRow_last _ _ _ (by omega)]
    · have hdn : wrap64 ((X : Int) - 1) = ((X - 1 : Nat) : Int) := by rw [w64 (by omega)]; omega
      have e15 : wrap64 (rd (nRow (aW lo hi f s) m X) ((X - 1 : Nat) : Int) + ((aW lo hi f s X : Nat) : Int)) = ((nx (aW lo hi f s) X (X - 1) + aW lo hi f s X : Nat) : Int) := by
        rw [show rd (nRow (aW lo hi f s) m X) ((X - 1 : Nat) : Int) = ((nx (aW lo hi f s) X (X - 1) : Nat) : Int) from rd_tabF _ _ _ (by omega)]
        have := nx_le (aW lo hi f s) _ X (X - 1) ha
        have := ha X
        rw [w64 (by omega)]; omega
      refine Ev.step (fun k => ?_) h1
      simp only [pomaderef09_Within.l2]
      rw [if_pos (by rw [l1]; omega), if_pos (show (X : Int) > 0 by omega), hdn, hup, l1, l2, if_pos (by omega), if_pos (by omega), if_pos (by omega), rX, e15, Int.toNat_natCast, nMid_set' _ _ _ (by omega) _ rfl, Option.bind_some]
      by_cases c : X + 1 < m
      · rw [if_pos (by omega), if_pos (by omega), if_pos (by omega), e16.resolve_right (fun h => h c), Int.toNat_natCast, nRow_set _ _ _ _ rfl]
      · rw [if_neg (by omega), nRow_last _ _ _ (by omega)]
theorem ev_W_l1 (m : Nat) (n : Nat) (t : Int) (hn : n ≤ 60) (hm : m ≤ 200) (hm2 : (m : Int) = hi - lo + 1) (h1 : lo ≤ t) (h2 : t ≤ hi) (hlo : -60 ≤ lo) (hhi : hi ≤ 60) :
    ∀ d s, s + d = n → Ev (fun k => pomaderef09_Within.l1 k n t lo (wRow lo hi f m s) s) (((W lo hi f n t : Nat) : Int), 0) := by
  intro d
  induction d with
  | zero =>
    intro s hs
    obtain rfl : s = n := by omega
    refine Ev.step (f := fun _ => some (((W lo hi f s t : Nat) : Int), 0)) (fun k => ?_) (Ev.now _)
    have e : wrap64 (t - lo) = (((t - lo).toNat : Nat) : Int) := by rw [w64 (by omega)]; omega
    simp only [pomaderef09_Within.l1]
    rw [if_neg (by omega), e, if_pos (by omega), wRow_length, if_pos (by omega), rd_wRow _ _ _ _ _ _ (by omega)]
    unfold aW
    rw [show lo + (((t - lo).toNat : Nat) : Int) = t by omega]
  | succ d ih =>
    intro s hs
    have h3 := ih (s + 1) (by omega)
    have hup : wrap64 ((s : Int) + 1) = ((s + 1 : Nat) : Int) := by rw [w64 (by omega)]; omega
    have h4 := ev_W_l2 lo hi f m n t s (by omega) hm hm2 _ (by rw [hup]; exact h3) m 0 (by omega)
    rw [← nRow_start] at h4
    refine Ev.step (fun k => ?_) h4
    simp only [pomaderef09_Within.l1]
    rw [if_pos (by omega), wRow_length, if_pos (by omega), Int.toNat_natCast, if_pos (by omega)]
    rfl
end
def far60 (x : Int) : Prop := x < -60 ∨ x > 60
instance (x : Int) : Decidable (far60 x) := by unfold far60; exact inferInstance
def withinR (a0 a1 a2 a3 a4 : Int) : Int × Int := if a0 < 0 ∨ a0 > 60 ∨ far60 a1 ∨ far60 a2 ∨ far60 a3 ∨ far60 a4 then (0, 2) else (((W a3 a4 a1 a0.toNat a2 : Nat) : Int), 0)
theorem ev_W_j2 (n : Nat) (a1 a2 a3 a4 : Int) (hn : n ≤ 60) (f1 : ¬ far60 a1) (f2 : ¬ far60 a2) (f3 : ¬ far60 a3) (f4 : ¬ far60 a4) (p : Bool) (hp : p = true ↔ a1 < a3 ∨ a1 > a4 ∨ a2 < a3 ∨ a2 > a4) : Ev (fun k => pomaderef09_Within.j2 k n a1 a2 a3 a4 p) (((W a3 a4 a1 n a2 : Nat) : Int), 0) := by
  unfold far60 at f1 f2 f3 f4
  cases p with
  | true =>
    have h := hp.1 rfl
    have hW : W a3 a4 a1 n a2 = 0 := by
      by_cases c : a3 ≤ a1 ∧ a1 ≤ a4
      · exact W_out _ _ _ _ _ (by omega)
      · exact W_from_out _ _ _ c _ _
    rw [hW]
    exact Ev.step (f := fun _ => some (0, 0)) (fun k => by simp only [pomaderef09_Within.j2, if_true]) (Ev.now _)
  | false =>
    have h : ¬ (a1 < a3 ∨ a1 > a4 ∨ a2 < a3 ∨ a2 > a4) := fun h => Bool.noConfusion (hp.2 h)
    obtain ⟨m, hm⟩ : ∃ m : Nat, (m : Int) = a4 - a3 + 1 := ⟨(a4 - a3 + 1).toNat, by omega⟩
    have h1 := ev_W_l1 a3 a4 a1 m n a2 hn (by omega) hm (by omega) (by omega) (by omega) (by omega) n 0 (by omega)
    rw [← wRow_start a3 a4 a1 m hm (by omega) (by omega)] at h1
    refine Ev.step (fun k => ?_) h1
    have e1 : wrap64 (wrap64 (a4 - a3) + 1) = (m : Int) := by rw [w64 (n := a4 - a3) (by omega), w64 (by omega)]; omega
    have e2 : wrap64 (a1 - a3) = a1 - a3 := w64 (by omega)
    simp only [pomaderef09_Within.j2]
    rw [if_neg (by decide), e1, e2, if_pos (by omega), Int.toNat_natCast, if_pos (by omega), Option.bind_some, if_pos (by omega), List.length_replicate, if_pos (by omega)]
    rfl
theorem ev_W_l0 (n : Nat) (a1 a2 a3 a4 : Int) (i : Nat) (hi : i < 4) (v : Int × Int) (hb : far60 ([a1, a2, a3, a4].getD i 0) → v = (0, 2)) (hg : ¬ far60 ([a1, a2, a3, a4].getD i 0) → Ev (fun k => pomaderef09_Within.l0 k n a1 a2 a3 a4 [a1, a2, a3, a4] ((i + 1 : Nat) : Int)) v) :
    Ev (fun k => pomaderef09_Within.l0 k n a1 a2 a3 a4 [a1, a2, a3, a4] (i : Int)) v := by
  have e : rd [a1, a2, a3, a4] (i : Int) = [a1, a2, a3, a4].getD i 0 := by unfold rd; rw [Int.toNat_natCast]
  have hup : wrap64 ((i : Int) + 1) = ((i + 1 : Nat) : Int) := by rw [w64 (by omega)]; omega
  by_cases c : far60 ([a1, a2, a3, a4].getD i 0)
  · rw [hb c]
    refine Ev.step (f := fun _ => some (0, 2)) (fun k => ?_) (Ev.now _)
    simp only [pomaderef09_Within.l0]
    rw [if_pos (by simp; omega), if_pos (by omega), e]
    unfold far60 at c
    by_cases c2 : [a1, a2, a3, a4].getD i 0 < -60
    · rw [if_pos c2]
    · rw [if_neg c2, if_pos (by omega)]
  · refine Ev.step (fun k => ?_) (hg c)
    simp only [pomaderef09_Within.l0]
    unfold far60 at c
    rw [if_pos (by simp; omega), if_pos (by omega), e, if_neg (by omega), if_neg (by omega), hup]
theorem ev_Within (a0 a1 a2 a3 a4 : Int) : Ev (fun k => pomaderef09_Within.f k a0 a1 a2 a3 a4) (withinR a0 a1 a2 a3 a4) := by
  have hj : ∀ p : Bool, (p = true ↔ a0 < 0 ∨ a0 > 60) → Ev (fun k => pomaderef09_Within.j0 k a0 a1 a2 a3 a4 p) (withinR a0 a1 a2 a3 a4) := by
    intro p hp
    cases p with
    | true =>
      have h := hp.1 rfl
      unfold withinR
      rw [if_pos (by omega)]
      exact Ev.step (f := fun _ => some (0, 2)) (fun k => by simp only [pomaderef09_Within.j0, if_true]) (Ev.now _)
    | false =>
      have h : ¬ (a0 < 0 ∨ a0 > 60) := fun h => Bool.noConfusion (hp.2 h)
      obtain ⟨n, rfl⟩ : ∃ n : Nat, a0 = (n : Int) := ⟨a0.toNat, by omega⟩
      have h0 : Ev (fun k => pomaderef09_Within.l0 k n a1 a2 a3 a4 [a1, a2, a3, a4] ((0 : Nat) : Int)) (withinR n a1 a2 a3 a4) := by
        refine ev_W_l0 n a1 a2 a3 a4 0 (by omega) _ (fun b => by unfold withinR; rw [if_pos (.inr (.inr (.inl b)))]) fun f1 => ?_
        refine ev_W_l0 n a1 a2 a3 a4 1 (by omega) _ (fun b => by unfold withinR; rw [if_pos (.inr (.inr (.inr (.inl b))))]) fun f2 => ?_
        refine ev_W_l0 n a1 a2 a3 a4 2 (by omega) _ (fun b => by unfold withinR; rw [if_pos (.inr (.inr (.inr (.inr (.inl b)))))]) fun f3 => ?_
        refine ev_W_l0 n a1 a2 a3 a4 3 (by omega) _ (fun b => by unfold withinR; rw [if_pos (.inr (.inr (.inr (.inr (.inr b)))))]) fun f4 => ?_
        have f1 : ¬ far60 a1 := f1
        have f2 : ¬ far60 a2 := f2
        have f3 : ¬ far60 a3 := f3
        have f4 : ¬ far60 a4 := f4
        unfold withinR
        rw [if_neg (by rintro (h1 | h1 | h1 | h1 | h1 | h1) <;> first | exact h (.inl h1) | exact h (.inr h1) | contradiction), Int.toNat_natCast]
        have hp2 : ∀ p : Bool, (p = true ↔ a1 < a3 ∨ a1 > a4 ∨ a2 < a3 ∨ a2 > a4) → Ev (fun k => pomaderef09_Within.j2 k n a1 a2 a3 a4 p) (((W a3 a4 a1 n a2 : Nat) : Int), 0) := fun p hp => ev_W_j2 n a1 a2 a3 a4 (by omega) f1 f2 f3 f4 p hp
        have hl : ∀ k, pomaderef09_Within.l0 (k + 1) n a1 a2 a3 a4 [a1, a2, a3, a4] ((3 + 1 : Nat) : Int) = pomaderef09_Within.j2 k n a1 a2 a3 a4 (decide (a1 < a3 ∨ a1 > a4 ∨ a2 < a3 ∨ a2 > a4)) := by
          intro k
          simp only [pomaderef09_Within.l0]
          rw [if_neg (by simp)]
          by_cases c1 : a1 < a3
          · rw [if_pos c1, decide_eq_true (.inl c1)]
          · rw [if_neg c1]
            by_cases c2 : a1 > a4
            · rw [if_pos c2, decide_eq_true (.inr (.inl c2))]
            · rw [if_neg c2]
              by_cases c3 : a2 < a3
              · rw [if_pos c3, decide_eq_true (.inr (.inr (.inl c3)))]
              · rw [if_neg c3]
                by_cases c4 : a2 > a4
                · rw [decide_eq_true c4, decide_eq_true (.inr (.inr (.inr c4)))]
                · rw [decide_eq_false c4, decide_eq_false (by omega)]
        exact Ev.step hl (hp2 _ (by simp only [decide_eq_true_eq]))
      refine Ev.step (fun k => ?_) h0
      simp only [pomaderef09_Within.j0]
      rw [if_neg (by decide)]; rfl
  refine Ev.congr (f := fun k => pomaderef09_Within.j0 k a0 a1 a2 a3 a4 (decide (a0 < 0 ∨ a0 > 60))) (fun k => ?_) (hj _ (by simp only [decide_eq_true_eq]))
  unfold pomaderef09_Within.f
  by_cases c : a0 < 0
  · rw [if_pos c, decide_eq_true (.inl c)]
  · rw [if_neg c]
    by_cases c2 : a0 > 60
    · rw [decide_eq_true c2, decide_eq_true (.inr c2)]
    · rw [decide_eq_false c2, decide_eq_false (by omega)]
theorem withinR_ok (n : Nat) (a1 a2 a3 a4 : Int) (hn : n ≤ 60) (f1 : ¬ far60 a1) (f2 : ¬ far60 a2) (f3 : ¬ far60 a3) (f4 : ¬ far60 a4) : withinR n a1 a2 a3 a4 = (((W a3 a4 a1 n a2 : Nat) : Int), 0) := by
  unfold withinR
  rw [if_neg (by rintro (h1 | h1 | h1 | h1 | h1 | h1) <;> first | omega | contradiction), Int.toNat_natCast]
theorem sumW_small (s e : Nat) (hs : s ≤ 59) (he : e ≤ 60) : sumW s e ≤ 236529163129722848 := by
  have h := sumW_eq s hs e he
  have h1 := V_small s 0 (by omega)
  have h2 := V_small s 1 (by omega)
  omega
theorem ev_Z_l1 (n k : Nat) (hk : k < n) (hn : n ≤ 30) (out : List Int) (back : Int) (v : List Int × Int) (hv : Ev (fun f => pomaderef09_Zeros.l1 f n out k back (((2 * sumW (2 * (n - k) - 1) 60 : Nat) : Int)) (((60 + 1 : Nat) : Int))) v) :
    ∀ d e, e + d = 60 → Ev (fun f => pomaderef09_Zeros.l1 f n out k back (((2 * sumW (2 * (n - k) - 1) e : Nat) : Int)) (((e + 1 : Nat) : Int))) v := by
  intro d
  induction d with
  | zero => intro e he; obtain rfl : e = 60 := by omega
            exact hv
  | succ d ih =>
    intro e he
    obtain ⟨K1, h1⟩ := ih (e + 1) (by omega)
    obtain ⟨K2, h2⟩ := ev_Within ((2 * (n - k) - 1 : Nat) : Int) 1 ((e + 1 : Nat) : Int) 1 60
    rw [withinR_ok _ _ _ _ _ (by omega) (by unfold far60; omega) (by unfold far60; omega) (by unfold far60; omega) (by unfold far60; omega)] at h2
    have c1 : ((e + 1 : Nat) : Int) ≤ 60 := by omega
    have s1 := sumW_small (2 * (n - k) - 1) e (by omega) (by omega)
    have s2 := sumW_small (2 * (n - k) - 1) (e + 1) (by omega) (by omega)
    have e0 : sumW (2 * (n - k) - 1) (e + 1) = sumW (2 * (n - k) - 1) e + W 1 60 1 (2 * (n - k) - 1) ((e + 1 : Nat) : Int) := rfl
    have e1 : wrap64 ((n : Int) - (k : Int)) = ((n - k : Nat) : Int) := by rw [w64 (by omega)]; omega
    have e2 : wrap64 (2 * ((n - k : Nat) : Int)) = ((2 * (n - k) : Nat) : Int) := by rw [w64 (by omega)]; omega
    have e3 : wrap64 (((2 * (n - k) : Nat) : Int) - 1) = ((2 * (n - k) - 1 : Nat) : Int) := by rw [w64 (by omega)]; omega
    have e4 : wrap64 (2 * ((W 1 60 1 (2 * (n - k) - 1) ((e + 1 : Nat) : Int) : Nat) : Int)) = ((2 * W 1 60 1 (2 * (n - k) - 1) ((e + 1 : Nat) : Int) : Nat) : Int) := by rw [w64 (by omega)]; omega
    have e5 : wrap64 (((2 * sumW (2 * (n - k) - 1) e : Nat) : Int) + ((2 * W 1 60 1 (2 * (n - k) - 1) ((e + 1 : Nat) : Int) : Nat) : Int)) = ((2 * sumW (2 * (n - k) - 1) (e + 1) : Nat) : Int) := by rw [w64 (by omega)]; omega
    have e6 : wrap64 (((e + 1 : Nat) : Int) + 1) = ((e + 1 + 1 : Nat) : Int) := by rw [w64 (by omega)]; omega
    refine ⟨max K1 K2 + 1, fun f hf => ?_⟩
    obtain ⟨f, rfl⟩ : ∃ m, f = m + 1 := ⟨f - 1, by omega⟩
    have h1' := h1 f (by omega)
    have h2' := h2 f (by omega)
    dsimp only at h1' h2' ⊢
    simp only [pomaderef09_Zeros.l1]
    rw [e1, e2, e3, h2', Option.bind_some, if_pos c1]
    dsimp only
    rw [e4, e5, e6]
    exact h1'
theorem ev_Z_l0 (n : Nat) (hn : n ≤ 30) (d : Nat) : ∀ k, k + d = n + 1 → Ev (fun f => pomaderef09_Zeros.l0 f n (arcsI n k) k) (arcsI n (n + 1), 0) := by
  induction d with
  | zero =>
    intro k hk
    obtain rfl : k = n + 1 := by omega
    refine Ev.step (f := fun _ => some (arcsI n (n + 1), 0)) (fun f => ?_) (Ev.now _)
    simp only [pomaderef09_Zeros.l0]
    rw [if_neg (by omega)]
  | succ d ih =>
    intro k hk
    have h3 := ih (k + 1) (by omega)
    obtain ⟨K2, h2⟩ := ev_Within ((2 * k : Nat) : Int) 0 0 (-60) 60
    rw [withinR_ok _ _ _ _ _ (by omega) (by unfold far60; omega) (by unfold far60; omega) (by unfold far60; omega) (by unfold far60; omega), W_unbound _ _ _ _ (by omega) (by omega) _ (by omega)] at h2
    have hC := V_choose (2 * k) k
    rw [show 2 * (k : Int) - ((2 * k : Nat) : Int) = 0 - 0 by omega] at hC
    rw [hC] at h2
    have hb := arcs_small n k hn (by omega)
    have c1 : (k : Int) ≤ (n : Int) := by omega
    have c2 : k < 17592186044416 := by omega
    have e1 : wrap64 (2 * (k : Int)) = ((2 * k : Nat) : Int) := by rw [w64 (by omega)]; omega
    have e5 : wrap64 ((k : Int) + 1) = ((k + 1 : Nat) : Int) := by rw [w64 (by omega)]; omega
    by_cases c : k < n
    · have c3 : (k : Int) < (n : Int) := by omega
      have hend : Ev (fun f => pomaderef09_Zeros.l1 f n (arcsI n k) k ((C (2 * k) k : Nat) : Int) (((2 * sumW (2 * (n - k) - 1) 60 : Nat) : Int)) (((60 + 1 : Nat) : Int))) (arcsI n (n + 1), 0) := by
        refine Ev.step (fun f => ?_) h3
        have e6 : wrap64 (((C (2 * k) k : Nat) : Int) * ((2 * sumW (2 * (n - k) - 1) 60 : Nat) : Int)) = ((arcsN n k : Nat) : Int) := by
          rw [sumW_mid (n - k) (by omega) (by omega)]
          exact w64mul hb (by decide)
        simp only [pomaderef09_Zeros.l1]
        rw [if_neg (by decide), arcsI_length, if_pos c2, e6, e5, ← arcsI_succ]
      obtain ⟨K1, h1⟩ := ev_Z_l1 n k c hn _ _ _ hend 60 0 (by omega)
      refine ⟨max K1 K2 + 1, fun f hf => ?_⟩
      obtain ⟨f, rfl⟩ : ∃ m, f = m + 1 := ⟨f - 1, by omega⟩
      have h1' := h1 f (by omega)
      have h2' := h2 f (by omega)
      dsimp only at h1' h2' ⊢
      simp only [pomaderef09_Zeros.l0]
      rw [if_pos c1, e1, h2', Option.bind_some, if_pos c3]
      exact h1'
    · obtain rfl : k = n := by omega
      obtain ⟨K3, h3⟩ := h3
      refine ⟨max K3 K2 + 1, fun f hf => ?_⟩
      obtain ⟨f, rfl⟩ : ∃ m, f = m + 1 := ⟨f - 1, by omega⟩
      have h3' := h3 f (by omega)
      have h2' := h2 f (by omega)
      have e6 : wrap64 ((C (2 * k) k : Nat) : Int) = ((arcsN k k : Nat) : Int) := by
        have : arcsN k k = C (2 * k) k := by unfold arcsN; rw [Nat.sub_self, Nat.mul_zero, C_zero, Nat.mul_one]
        rw [this] at hb ⊢
        rw [w64 (by omega)]
      dsimp only at h3' h2' ⊢
      simp only [pomaderef09_Zeros.l0]
      rw [if_pos c1, e1, h2', Option.bind_some, if_neg (Int.lt_irrefl _), arcsI_length, if_pos c2]
      dsimp only
      rw [e6, e5, ← arcsI_succ]
      exact h3'
theorem ev_RZeros (n : Int) : Ev (fun f => pomaderef09_Zeros.f f n) (arcsR n) := by
  unfold arcsR
  have ht : Ev (fun f => pomaderef09_Zeros.j0 f n true) (([] : List Int), (2 : Int)) := Ev.step (f := fun _ => some ([], 2)) (fun k => by simp only [pomaderef09_Zeros.j0, if_true]) (Ev.now _)
  by_cases h : n < 0 ∨ n > 30
  · rw [if_pos h]
    refine Ev.congr (fun f => ?_) ht
    unfold pomaderef09_Zeros.f
    by_cases c : n < 0
    · rw [if_pos c]
    · rw [if_neg c, decide_eq_true (by omega)]
  · rw [if_neg h]
    obtain ⟨n, rfl⟩ : ∃ m : Nat, n = (m : Int) := ⟨n.toNat, by omega⟩
    have h1 := ev_Z_l0 n (by omega) (n + 1) 0 (by omega)
    rw [Int.toNat_natCast]
    refine Ev.congr (f := fun f => pomaderef09_Zeros.j0 f n false) (fun f => ?_) (Ev.step (fun f => ?_) h1)
    · unfold pomaderef09_Zeros.f
      rw [if_neg (by omega), decide_eq_false (by omega)]
    · simp only [pomaderef09_Zeros.j0]
      rw [if_neg (by decide)]; rfl

end Go.Proofs.YtnjimbgfafkogaaDoor.Pure
