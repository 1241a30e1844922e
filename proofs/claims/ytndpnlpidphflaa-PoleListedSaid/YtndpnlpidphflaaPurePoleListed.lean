/- Order is a list of all customers, each once; At and Turn agree with it, Inverse is its inverse, the lengths of Cycles sum to their number: for all circles of up to 300 customers. -/
import Derived.Test.YtndpnlpidphflaaPrint13
import Derived.Test.YtndpnlpidphflaaEvI
import Derived.Test.YtndpnlpidphflaaEvE
namespace Go.Proofs.Ytndpnlpidphflaa.Pure
open Go.RowKit Go.Proofs.Ytndpnlpidphflaa.Print Go.Proofs.Ytndpnlpidphflaa.Math Go.Proofs.YtndpnlpidphflaaW.PrintWords Go.Proofs.YtndpnlpidphflaaW.PrintLast Go.Proofs.YtndpnlpidphflaaW.PrintMore
set_option linter.unusedVariables false

open Go.Proofs.Ytndpnlpidphflaa.Hand

theorem sum_take (c : List Int) (i : Nat) (h : i < c.length) : (c.take (i + 1)).sum = (c.take i).sum + rd c i := by
  have e : rd c i = c[i] := by rw [rd_nat, List.getD_eq_getElem?_getD]; simp [h]
  rw [List.take_succ_eq_append_getElem h, List.sum_append, e]
  simp

theorem count_take (c : List Int) (i : Nat) (h : i < c.length) : (c.take (i + 1)).count 1 = (c.take i).count 1 + (if rd c i = 1 then 1 else 0) := by
  have e : rd c i = c[i] := by rw [rd_nat, List.getD_eq_getElem?_getD]; simp [h]
  rw [List.take_succ_eq_append_getElem h, List.count_append, e, List.count_singleton]
  simp

theorem w_at {x : Int} (h : -9223372036854775808 ≤ x ∧ x ≤ 9223372036854775807) : wrap64 x = x := w64 h
theorem w_succ (i : Nat) (h : i ≤ 1000000) : wrap64 ((i : Int) + 1) = ((i + 1 : Nat) : Int) := by rw [w64 (by omega)]; omega
theorem w_pred (i : Nat) (h : i ≤ 1000000) (h1 : (i : Int) > 0) : wrap64 ((i : Int) - 1) = ((i - 1 : Nat) : Int) := by rw [w64 (by omega)]; omega
theorem w_size (a : Int) (m : Nat) (h : 0 ≤ a) (hm : 1 + a % 300 = (m : Int)) : wrap64 (1 + wrap64 (Int.tmod a 300)) = (m : Int) := by
  rw [tm h, w64 (n := a % 300) (by omega), w64 (by omega), hm]
theorem w_turn (t m q : Nat) (h : (t : Int) ≤ 65535) (hq : (t : Int) % (m : Int) = q) : Int.tmod (wrap64 (t : Int)) m = (q : Int) := by rw [w64 (n := (t : Int)) (by omega), tm (by omega), hq]
theorem cnt_small {c : List Int} {i : Nat} {y : Int} (hy : y = ((c.take i).count 1 : Nat)) (hi : i ≤ 1000) : -9223372036854775808 ≤ y + 1 ∧ y + 1 ≤ 9223372036854775807 := by
  have h1 := List.count_le_length (l := c.take i) (a := (1 : Int))
  have h2 := List.length_take_le i c
  omega

theorem sum_perm {a b : List Int} (h : a.Perm b) : a.sum = b.sum := by
  induction h with
  | nil => rfl
  | cons x _ ih => rw [List.sum_cons, List.sum_cons, ih]
  | swap x y l => simp only [List.sum_cons]; omega
  | trans _ _ h1 h2 => exact h1.trans h2

theorem sum_le (c : List Int) (m : Int) (h : ∀ x ∈ c, 1 ≤ x ∧ x ≤ m) : 0 ≤ c.sum ∧ c.sum ≤ c.length * m := by
  induction c with
  | nil => simp
  | cons x c ih =>
    have h1 := ih fun y hy => h y (List.mem_cons_of_mem _ hy)
    have h2 := h x List.mem_cons_self
    rw [List.sum_cons, List.length_cons, Int.natCast_succ, Int.add_mul, Int.one_mul]
    omega

section
variable (t k m : Nat) (l v c : List Int)

theorem p_l3 (hm : m ≤ 100000) (hl : l.length = m) (sum : Int) (r : Bool) (hr : Ev (fun f => pomadelaw06_PoleListed.l3 f t m k l v sum 0 m) r) (d : Nat) : ∀ (i : Nat) (x : Int), i + d = m → x = ((fixed l m : Nat) : Int) - fixed l i → fixed l m ≤ 100000 →
    Ev (fun f => pomadelaw06_PoleListed.l3 f t m k l v sum x i) r := by
  induction d with
  | zero =>
    intro i x hd hx hf
    obtain rfl : i = m := by omega
    obtain rfl : x = 0 := by omega
    exact hr
  | succ d ih =>
    intro i x hd hx hf
    have hfix : fixed l (i + 1) = fixed l i + (if rd l i = (i : Int) then 1 else 0) := rfl
    have hmono : ∀ a b : Nat, fixed l a ≤ fixed l (a + b) := by
      intro a b
      induction b with
      | zero => exact Nat.le_refl _
      | succ b ihb => rw [← Nat.add_assoc]; exact Nat.le_trans ihb (by rw [fixed]; omega)
    have h1 := hmono (i + 1) d
    rw [show i + 1 + d = m by omega] at h1
    have hw := Aside0.mk (w_succ i (by omega))
    by_cases he : rd l i = (i : Int)
    · rw [if_pos he] at hfix
      refine Ev.step (fun f => ?_) (ih (i + 1) (x - 1) (by omega) (by omega) hf)
      simp only [pomadelaw06_PoleListed.l3]
      rw [if_pos (by omega), if_pos (by omega), if_pos (by omega), if_pos he, hw.out, w64 (n := x - 1) (by omega)]
    · rw [if_neg he] at hfix
      refine Ev.step (fun f => ?_) (ih (i + 1) x (by omega) (by omega) hf)
      simp only [pomadelaw06_PoleListed.l3]
      rw [if_pos (by omega), if_pos (by omega), if_pos (by omega), if_neg he, hw.out]

set_option maxHeartbeats 4000000 in
theorem p_l2 (hm : m ≤ 300) (hc : c.length ≤ m) (hv : ∀ x ∈ c, 1 ≤ x ∧ x ≤ (m : Int)) (hs : c.Pairwise (· ≤ ·)) (r : Bool) (hr : Ev (fun f => pomadelaw06_PoleListed.l3 f t m k l v c.sum (c.count 1) 0) r) (d : Nat) : ∀ (i : Nat) (x y : Int), i + d = c.length → x = (c.take i).sum → y = (c.take i).count 1 →
    Ev (fun f => pomadelaw06_PoleListed.l2 f t m k l v c x y i) r := by
  induction d with
  | zero =>
    intro i x y hd hx hy
    obtain rfl : i = c.length := by omega
    rw [List.take_length] at hx hy
    subst hx hy
    refine Ev.step (fun f => ?_) hr
    simp only [pomadelaw06_PoleListed.l2]
    rw [if_neg (by omega)]
  | succ d ih =>
    intro i x y hd hx hy
    have hi : i < c.length := by omega
    have hg : rd c i = c[i] := by rw [rd_nat, List.getD_eq_getElem?_getD]; simp [hi]
    have h1 := hv _ (List.getElem_mem hi)
    rw [← hg] at h1
    have hs1 := sum_take c i hi
    have hs2 := count_take c i hi
    have hb := sum_le (c.take (i + 1)) m fun x hx => hv x (List.mem_of_mem_take hx)
    have hcl := List.count_le_length (l := c.take (i + 1)) (a := (1 : Int))
    have htl : (c.take (i + 1)).length = i + 1 := by simp; omega
    rw [htl] at hb hcl
    have hbb : (((i + 1 : Nat) : Int)) * m ≤ 300 * 300 := Int.mul_le_mul (by omega) (by omega) (by omega) (by omega)
    have hw := Aside0.mk (w_succ i (by omega))
    have hw1 := Aside0.mk (w_at (x := x + rd c i) (by omega))
    have hw2 := Aside0.mk (w_at (x := y + 1) (cnt_small hy (by omega)))
    have hj : Ev (fun f => pomadelaw06_PoleListed.j4 f t m k l v c x y i false) r := by
      by_cases he : rd c i = 1
      · rw [if_pos he] at hs2
        refine Ev.step (fun f => ?_) (ih (i + 1) (x + rd c i) (y + 1) (by omega) (by omega) (by omega))
        simp only [pomadelaw06_PoleListed.j4]
        rw [if_neg (show ¬ (false = true) by decide), if_pos (show (0 : Int) ≤ i by omega), if_pos (show (i : Int) < (c.length : Int) by omega), if_pos he, hw.out, hw1.out, hw2.out]
      · rw [if_neg he] at hs2
        refine Ev.step (fun f => ?_) (ih (i + 1) (x + rd c i) y (by omega) (by omega) (by omega))
        simp only [pomadelaw06_PoleListed.j4]
        rw [if_neg (show ¬ (false = true) by decide), if_pos (show (0 : Int) ≤ i by omega), if_pos (show (i : Int) < (c.length : Int) by omega), if_neg he, hw.out, hw1.out]
    refine Ev.step (fun f => ?_) hj
    simp only [pomadelaw06_PoleListed.l2]
    rw [if_pos (show (i : Int) < (c.length : Int) by omega), if_pos (show (0 : Int) ≤ i by omega), if_neg (show ¬ rd c i < 1 by omega)]
    clear hj hw1 hw2 hs1 hs2 hb hcl hbb hw
    by_cases hz : (i : Int) > 0
    · have hw3 := Aside0.mk (w_pred i (by omega) (by omega))
      have hle : rd c ((i - 1 : Nat) : Int) ≤ rd c i := by
        have hg2 : rd c ((i - 1 : Nat) : Int) = c[i - 1] := by rw [rd_nat, List.getD_eq_getElem?_getD]; simp [show i - 1 < c.length by omega]
        rw [hg, hg2]
        exact List.pairwise_iff_getElem.1 hs (i - 1) i (by omega) hi (by omega)
      rw [if_pos hz, hw3.out, if_pos (by omega), if_pos (by omega), decide_eq_false (by omega)]
    · rw [if_neg hz]

theorem p_l1 (hm : m ≤ 100000) (hl : l.length = m) (hv : v.length = m) (hlr : ∀ i : Nat, i < m → 0 ≤ rd l i ∧ rd l i < m) (hvr : ∀ i : Nat, i < m → 0 ≤ rd v i ∧ rd v i < m) (h1 : ∀ i : Nat, i < m → rd v (rd l i) = i) (h2 : ∀ i : Nat, i < m → rd l (rd v i) = i)
    (r : Bool) (hr : Ev (fun f => pomadelaw06_PoleListed.l2 f t m k l v c 0 0 0) r) (d : Nat) : ∀ i : Nat, i + d = m → Ev (fun f => pomadelaw06_PoleListed.l1 f t m k l v c i) r := by
  induction d with
  | zero =>
    intro i hd
    refine Ev.step (fun f => ?_) hr
    simp only [pomadelaw06_PoleListed.l1]
    rw [if_neg (by omega)]
  | succ d ih =>
    intro i hd
    have hi : i < m := by omega
    have a1 := hlr i hi
    have a2 := hvr i hi
    have hw := Aside0.mk (w_succ i (by omega))
    refine Ev.step (fun f => ?_) (ih (i + 1) (by omega))
    simp only [pomadelaw06_PoleListed.l1]
    rw [if_pos (show (i : Int) < m by omega), if_pos (show (0 : Int) ≤ i by omega), if_pos (show (i : Int) < (l.length : Int) by omega), if_pos a1.1, if_pos (show rd l i < (v.length : Int) by omega), if_pos (h1 i hi),
      if_pos (show (i : Int) < (v.length : Int) by omega), if_pos a2.1, if_pos (show rd v i < (l.length : Int) by omega), if_pos (h2 i hi), hw.out]

theorem p_l0 (hm : m ≤ 100000) (hl : l.length = m) (hv : v.length = m) (hlr : ∀ i : Nat, i < m → 0 ≤ rd l i ∧ rd l i < m) (hvr : ∀ i : Nat, i < m → 0 ≤ rd v i ∧ rd v i < m)
    (r : Bool) (hr : Ev (fun f => pomadelaw06_PoleListed.l1 f t m k l v c 0) r) (d : Nat) : ∀ i : Nat, i + d = m → Ev (fun f => pomadelaw06_PoleListed.l0 f t m k l v c i) r := by
  induction d with
  | zero =>
    intro i hd
    refine Ev.step (fun f => ?_) hr
    simp only [pomadelaw06_PoleListed.l0]
    rw [if_neg (by omega)]
  | succ d ih =>
    intro i hd
    have hi : i < m := by omega
    have a1 := hlr i hi
    have a2 := hvr i hi
    have hw := Aside0.mk (w_succ i (by omega))
    refine Ev.step (fun f => ?_) (ih (i + 1) (by omega))
    simp only [pomadelaw06_PoleListed.l0]
    rw [if_pos (show (i : Int) < m by omega), if_pos (show (0 : Int) ≤ i by omega), if_pos (show (i : Int) < (l.length : Int) by omega), if_neg (show ¬ rd l i < 0 by omega), if_neg (show ¬ rd l i ≥ m by omega),
      if_pos (show (i : Int) < (v.length : Int) by omega), if_neg (show ¬ rd v i < 0 by omega), if_neg (show ¬ rd v i ≥ m by omega), hw.out]
end

theorem sort_sum (c : List Int) : (sortI c).sum = c.sum := by
  have : (sortI c).Perm c := List.mergeSort_perm _ _
  exact sum_perm this

set_option maxHeartbeats 4000000 in
theorem PoleListed : pomadelaw06_PoleListed.Pure := by
  intro a0 a1 a2 w0 w1 w2
  have h0 := wf_u16 w0
  have h1 := wf_u16 w1
  have h2 := wf_u16 w2
  obtain ⟨t, rfl⟩ : ∃ t : Nat, a2 = (t : Int) := ⟨a2.toNat, by omega⟩
  obtain ⟨m, hm⟩ : ∃ m : Nat, (1 + a0 % 300 : Int) = (m : Int) := ⟨(1 + a0 % 300).toNat, by omega⟩
  obtain ⟨k, hk⟩ : ∃ k : Nat, (1 + a1 % 1000 : Int) = (k : Int) := ⟨(1 + a1 % 1000).toNat, by omega⟩
  have hmm := Aside0.mk (w_size a0 m h0.1 hm)
  have hst : pomadelaw06_step.f a1 = some (k : Int) := by rw [step_v h1, hk]
  have hC : Circ m k := ⟨by omega, by omega, by omega, by omega⟩
  obtain ⟨v, ⟨K1, e1⟩, _, p1, p2⟩ := ev_Inverse m k hC (by omega)
  obtain ⟨res, m', hw, ho, ⟨K2, e2⟩⟩ := ev_cyc (by omega) (perm_order k m)
  have hP := perm_order k m
  have hrd : ∀ i : Nat, i < m → rd (jst k m m).1 i = atv m k i := jst_rd k m m (Nat.le_refl _)
  obtain ⟨l, hl⟩ : ∃ l, (jst k m m).1 = l := ⟨_, rfl⟩
  rw [hl] at hP hrd p2 e2 ho
  have hor : pole_Order.f m k = some (l, 0) := by rw [order_v hC (by omega), hl]
  have hinv : ∀ i : Nat, i < m → 0 ≤ turnv k m i ∧ turnv k m i < m ∧ rd v i = turnv k m i ∧ rd l (turnv k m i) = i := by
    intro i hi
    have hr := turnv_range k m i (by omega) (by omega)
    have ha := at_turn k m i (by omega) (by omega)
    obtain ⟨j, hj⟩ : ∃ j : Nat, turnv k m i = (j : Int) := ⟨(turnv k m i).toNat, by omega⟩
    rw [hj] at hr ha ⊢
    have e := hrd j (by omega)
    rw [ha] at e
    have e3 := p2 j (by omega)
    rw [e] at e3
    exact ⟨by omega, by omega, e3, e⟩
  have hvr : ∀ i : Nat, i < m → 0 ≤ rd v i ∧ rd v i < m := fun i hi => by
    obtain ⟨q1, q2, q3, q4⟩ := hinv i hi
    omega
  have hvl : ∀ i : Nat, i < m → rd l (rd v i) = i := fun i hi => by
    obtain ⟨q1, q2, q3, q4⟩ := hinv i hi
    rw [q3, q4]
  have hperm : (sortI res).Perm res := List.mergeSort_perm _ _
  have hU : U m' = 0 := by
    unfold U
    rw [List.countP_eq_zero]
    intro b hb
    obtain ⟨j, hj, rfl⟩ := List.mem_iff_getElem.1 hb
    have := ho.low j (by have := ho.shut.1; omega)
    unfold B at this
    rw [List.getD_eq_getElem?_getD] at this
    simp [hj] at this
    simp [this]
  have hsum := ho.sum
  have hfew := ho.few
  have hones := ho.ones
  rw [hU] at hsum hfew
  have hcyc : ∀ f, K2 ≤ f → pole_Cycles.f f m k = some (sortI res, 0) := fun f hf => by
    have hl2 : Go.Proofs.Ytndpnlpidphflaa.Pre.pole_listed.f (m : Int) k = some 0 := listed_ok hC (by omega)
    simp only [pole_Cycles.f]
    have e2' : cyc0 f l [] 0 = some res := e2 f hf
    rw [← hl] at e2'
    rw [hl2, Option.bind_some, if_pos rfl, Int.toNat_natCast, e2', Option.bind_some]
  have ht0 := mod_pos (a := (t : Int)) (b := (m : Int)) (by omega)
  clear hw
  obtain ⟨q, hq⟩ : ∃ q : Nat, (t : Int) % (m : Int) = (q : Int) := ⟨((t : Int) % m).toNat, by omega⟩
  rw [hq] at ht0
  have hqt := Aside0.mk (w_turn t m q h2.2 hq)
  obtain ⟨K3, e3⟩ := ev_At m k q
  obtain ⟨K4, e4⟩ := ev_Turn m k q hC (by omega) (by omega) (by omega)
  obtain ⟨K5, e5⟩ := ev_Last m k
  obtain ⟨K6, e6⟩ := alive_true
  dsimp only at e1 e3 e4 e5 e6
  rw [Int.toNat_natCast] at e4
  have hend : Ev (fun f => pomadelaw06_PoleListed.l3 f t m k l v m 0 m) true := by
    refine Ev.step (f := fun f => if f ≤ max K3 (max K4 (max K5 K6)) then pomadelaw06_PoleListed.l3 (f + 1) t m k l v m 0 m else some true) (fun f => ?_) ⟨max K3 (max K4 (max K5 K6)) + 1, fun f hf => ?_⟩
    · split
      · rfl
      · rename_i hf
        simp only [pomadelaw06_PoleListed.l3]
        have hlast := Aside0.mk (w_pred m (by omega) (by omega))
        have hat : atA m k q = (atv m k q, 0) := by
          unfold atA; rw [if_pos ⟨by omega, by omega, by omega, by omega⟩, if_neg (by omega), if_neg (by omega)]
        have hla : lastA m k = (atv m k ((m - 1 : Nat) : Int), 0) := by
          unfold lastA; rw [if_pos ⟨by omega, by omega, by omega, by omega⟩, show (m : Int) - 1 = ((m - 1 : Nat) : Int) by omega]
        rw [if_neg (by omega), if_neg (by omega), hqt.out, e3 f (by omega), e4 f (by omega), e5 f (by omega), hat, hla, Option.bind_some, Option.bind_some, Option.bind_some]
        dsimp only
        rw [if_pos rfl, if_pos rfl, if_pos rfl, if_pos (by omega), if_pos (by have := hP.len; omega), if_pos (hrd q (by omega)).symm, if_pos (by omega), if_pos (hinv q (by omega)).2.2.1.symm, hlast.out, if_pos (by omega), if_pos (by have := hP.len; omega),
          if_pos (hrd (m - 1) (by omega)).symm, if_pos trivial, if_pos trivial, e6 f (by omega)]
        rfl
    · dsimp only
      rw [if_neg (by omega)]
  have hcnt : (sortI res).count 1 = fixed l m := by rw [hperm.count_eq, hones]
  have hf300 : fixed l m ≤ 100000 := by
    rw [← hones]
    have := List.count_le_length (l := res) (a := (1 : Int))
    omega
  have g3 := p_l3 t k m l v (by omega) hP.len m true hend m 0 (fixed l m) (by omega) (by simp [fixed]) hf300
  have g2 := p_l2 t k m l v (sortI res) (by omega) (by rw [hperm.length_eq]; omega) (fun x hx => ho.vals x (hperm.mem_iff.1 hx)) (by
      have := List.pairwise_mergeSort (le := fun x y : Int => decide (x ≤ y)) (fun a b c => by simp; omega) (fun a b => by simp; omega) res
      exact this.imp fun h => by simpa using h) true (by
      rw [sort_sum, show res.sum = (m : Int) by omega, hcnt]; exact g3) (sortI res).length 0 0 0 (by omega) (by simp) (by simp)
  have g1 := p_l1 t k m l v (sortI res) (by omega) hP.len p1 hP.range hvr p2 hvl true g2 m 0 (by omega)
  have g0 := p_l0 t k m l v (sortI res) (by omega) hP.len p1 hP.range hvr true g1 m 0 (by omega)
  have gj : Ev (fun f => pomadelaw06_PoleListed.j0 f t m k l v (sortI res) false) true := by
    refine Ev.step (fun f => ?_) g0
    simp only [pomadelaw06_PoleListed.j0]
    rw [if_neg (show ¬ (false = true) by decide)]
    rfl
  obtain ⟨K7, e7⟩ := gj
  dsimp only at e7
  refine ⟨max K1 (max K2 K7), ?_⟩
  simp only [pomadelaw06_PoleListed.f]
  rw [hst, Option.bind_some, hmm.out, hor, Option.bind_some, e1 _ (by omega), Option.bind_some, hcyc _ (by omega), Option.bind_some]
  dsimp only
  rw [if_pos rfl, if_pos rfl, if_pos rfl, if_pos (by rw [hP.len]), show ((v.length : Int) != (m : Int)) = false by rw [p1]; simp]
  exact e7 _ (by omega)

end Go.Proofs.Ytndpnlpidphflaa.Pure
