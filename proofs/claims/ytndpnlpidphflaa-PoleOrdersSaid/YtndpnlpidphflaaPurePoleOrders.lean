/- Order, Inverse and Cycles of the program return what those of the reference return, for all circles and steps: no condition. -/
import Derived.Test.YtndpnlpidphflaaPrint12
import Derived.Test.YtndpnlpidphflaaEvI
namespace Go.Proofs.Ytndpnlpidphflaa.Pure
open Go.RowKit Go.Proofs.Ytndpnlpidphflaa.Print Go.Proofs.Ytndpnlpidphflaa.Math Go.Proofs.YtndpnlpidphflaaW.PrintWords Go.Proofs.YtndpnlpidphflaaW.PrintLast Go.Proofs.YtndpnlpidphflaaW.PrintMore
set_option linter.unusedVariables false

open Go.Proofs.Ytndpnlpidphflaa.Hand
/-! The lengths, counted. -/
def flat (out : List Int) : Nat → Nat → List Int
  | _, 0 => []
  | c, d + 1 => List.replicate (out.count (c : Int)) (c : Int) ++ flat out (c + 1) d

theorem flat_ge (out : List Int) (d : Nat) : ∀ c, ∀ x ∈ flat out c d, (c : Int) ≤ x := by
  induction d with
  | zero => intro c x hx; simp [flat] at hx
  | succ d ih =>
    intro c x hx
    simp only [flat, List.mem_append] at hx
    rcases hx with hx | hx
    · have := (List.mem_replicate.1 hx).2; omega
    · have := ih (c + 1) x hx; omega

theorem flat_sorted (out : List Int) (d : Nat) : ∀ c, (flat out c d).Pairwise (fun a b => a ≤ b) := by
  induction d with
  | zero => intro c; simp [flat]
  | succ d ih =>
    intro c
    simp only [flat]
    rw [List.pairwise_append]
    refine ⟨?_, ih (c + 1), fun a ha b hb => ?_⟩
    · rw [List.pairwise_replicate]; right; omega
    · have h1 := (List.mem_replicate.1 ha).2
      have h2 := flat_ge out d (c + 1) b hb
      omega

theorem flat_count (out : List Int) (d : Nat) : ∀ c (x : Int), (flat out c d).count x = if (c : Int) ≤ x ∧ x < c + d then out.count x else 0 := by
  induction d with
  | zero => intro c x; simp only [flat, List.count_nil]; rw [if_neg (by omega)]
  | succ d ih =>
    intro c x
    simp only [flat]
    rw [List.count_append, ih, List.count_replicate]
    by_cases e : (c : Int) = x
    · subst e
      rw [if_neg (show ¬ (((c + 1 : Nat) : Int) ≤ (c : Int) ∧ (c : Int) < ((c + 1 : Nat) : Int) + d) by omega),
        if_pos (show (c : Int) ≤ c ∧ (c : Int) < c + ((d + 1 : Nat) : Int) by omega)]
      simp
    · have : ((c : Int) == x) = false := by simpa using e
      rw [this, if_neg (show ¬ (false = true) by decide), Nat.zero_add]
      by_cases h : (c : Int) ≤ x ∧ x < c + ((d + 1 : Nat) : Int)
      · rw [if_pos h, if_pos (show ((c + 1 : Nat) : Int) ≤ x ∧ x < ((c + 1 : Nat) : Int) + d by omega)]
      · rw [if_neg h, if_neg (show ¬ (((c + 1 : Nat) : Int) ≤ x ∧ x < ((c + 1 : Nat) : Int) + d) by omega)]

theorem sort_flat (out : List Int) (n : Nat) (h : ∀ x ∈ out, 1 ≤ x ∧ x ≤ (n : Int)) : sortI out = flat out 1 n := by
  refine List.Perm.eq_of_pairwise (le := fun a b => a ≤ b) (fun a b _ _ h1 h2 => by omega) ?_ (flat_sorted out n 1) ?_
  · have := List.pairwise_mergeSort (le := fun x y : Int => decide (x ≤ y)) (fun a b c h1 h2 => by simp at *; omega) (fun a b => by simp; omega) out
    exact this.imp (fun h => by simpa using h)
  · refine (List.mergeSort_perm _ _).trans ?_
    rw [List.perm_iff_count]
    intro x
    rw [flat_count]
    by_cases hx : x ∈ out
    · have := h x hx
      rw [if_pos (by omega)]
    · rw [List.count_eq_zero_of_not_mem hx]
      split <;> rfl

/-- How many there are of each length. -/
def Many (n : Nat) (many out : List Int) : Prop := many.length = n + 1 ∧ ∀ c : Nat, 1 ≤ c → c ≤ n → rd many c = (out.count (c : Int) : Nat)

theorem ev_l3 (n : Nat) (hn : n ≤ 2000) (many out : List Int) (hm : Many n many out) (ho : out.length ≤ 100000) (c : Nat) (h1 : 1 ≤ c) (h2 : c ≤ n) (r : List Int × Int) (d : Nat) : ∀ (j : Nat) (acc : List Int), j + d = out.count (c : Int) → acc.length + d ≤ 1000000000 →
    Ev (fun f => pomaderef06_Cycles.l2 f n many (acc ++ List.replicate d (c : Int)) ((c : Int) + 1)) r → Ev (fun f => pomaderef06_Cycles.l3 f n many acc c j) r := by
  have hv := hm.2 c h1 h2
  have hc := List.count_le_length (l := out) (a := (c : Int))
  induction d with
  | zero =>
    intro j acc hj hl hr
    rw [List.replicate_zero, List.append_nil] at hr
    refine Ev.step (fun f => ?_) hr
    simp only [pomaderef06_Cycles.l3]
    rw [if_pos (by omega), if_pos (by have := hm.1; omega), hv, if_neg (by omega), w64 (by omega)]
  | succ d ih =>
    intro j acc hj hl hr
    refine Ev.step (fun f => ?_) (ih (j + 1) (acc ++ [(c : Int)]) (by omega) (by simp; omega) (by rw [List.append_assoc, List.singleton_append, ← List.replicate_succ]; exact hr))
    simp only [pomaderef06_Cycles.l3]
    rw [if_pos (by omega), if_pos (by have := hm.1; omega), hv, if_pos (by omega), if_pos (by omega), w64 (by omega)]
    rfl

theorem flat_len (out : List Int) (ho : out.length ≤ 100000) (d : Nat) : ∀ c, (flat out c d).length ≤ d * 100000 := by
  induction d with
  | zero => intro c; simp [flat]
  | succ d ih =>
    intro c
    have := ih (c + 1)
    have hc := List.count_le_length (l := out) (a := (c : Int))
    simp only [flat, List.length_append, List.length_replicate]
    omega

theorem ev_l2 (n : Nat) (hn : n ≤ 2000) (many out : List Int) (hm : Many n many out) (ho : out.length ≤ 100000) (d : Nat) : ∀ (c : Nat) (acc : List Int), 1 ≤ c → c + d = n + 1 → acc.length + d * 100000 ≤ 500000000 →
    Ev (fun f => pomaderef06_Cycles.l2 f n many acc c) (acc ++ flat out c d, 0) := by
  induction d with
  | zero =>
    intro c acc h1 h2 h3
    refine Ev.step (f := fun _ => some (acc, 0)) (fun f => ?_) (by rw [flat, List.append_nil]; exact Ev.now _)
    simp only [pomaderef06_Cycles.l2]
    rw [if_neg (by omega)]
  | succ d ih =>
    intro c acc h1 h2 h3
    have hc := List.count_le_length (l := out) (a := (c : Int))
    refine Ev.step (fun f => ?_) (ev_l3 n hn many out hm ho c h1 (by omega) _ (out.count (c : Int)) 0 acc (by omega) (by omega) ?_)
    · simp only [pomaderef06_Cycles.l2]
      rw [if_pos (by omega)]
      rfl
    · have := ih (c + 1) (acc ++ List.replicate (out.count (c : Int)) (c : Int)) (by omega) (by omega) (by simp; omega)
      simp only [flat]
      rw [← List.append_assoc]
      exact this

theorem ref_in {l : List Int} {n : Nat} (hl : Perm l n) (many : List Int) (i : Int) (r : List Int × Int) (f : Nat) : ∀ (m m' : List Bool) (a : Nat) (long long' : Int), m.length = n → a < n → 0 ≤ long → long' ≤ n → many.length = n + 1 → n ≤ 2000 → wk l f m a long = some (m', long') →
    Ev (fun k => pomaderef06_Cycles.l0 k n l (many.set long'.toNat (wrap64 (rd many long' + 1))) m' (wrap64 (i + 1))) r → Ev (fun k => pomaderef06_Cycles.l1 k n l many m i long a) r := by
  induction f with
  | zero => intro m m' a long long' h1 h2 h3 h4 h5 h6 h; simp [wk] at h
  | succ f ih =>
    intro m m' a long long' h1 h2 h3 h4 h5 h6 h hr
    have hle := wk_le l _ _ _ _ _ _ h
    simp only [wk] at h
    cases hb : B m a with
    | true =>
      rw [hb] at h
      simp at h
      obtain ⟨rfl, rfl⟩ := h
      refine Ev.step (fun k => ?_) hr
      simp only [pomaderef06_Cycles.l1]
      rw [if_pos (by omega), if_pos (by omega), rdOf_nat, if_pos hb, if_pos (by omega), if_pos (by omega)]
    | false =>
      rw [hb] at h
      simp only [Bool.false_eq_true, if_false] at h
      have hra := hl.range a h2
      have hll := hl.len
      refine Ev.step (fun k => ?_) (ih (m.set a true) m' (rd l a).toNat (long + 1) long' (by rw [List.length_set]; exact h1) (by omega) (by omega) h4 h5 h6 h hr)
      simp only [pomaderef06_Cycles.l1]
      rw [if_pos (by omega), if_pos (by omega), rdOf_nat, hb, if_neg (by decide), if_pos (by omega), Int.toNat_natCast, w64 (by omega), Int.toNat_of_nonneg hra.1]

theorem ref_out {l : List Int} {n : Nat} (hn : n ≤ 2000) (hl : Perm l n) {i : Nat} {m : List Bool} {out res : List Int} (hw : WO l n i m out res) (r : List Int × Int) (hr : ∀ many, Many n many res → Ev (fun k => pomaderef06_Cycles.l2 k n many [] 1) r) :
    ∀ many, Many n many out → m.length = n → out.length ≤ i → Ev (fun k => pomaderef06_Cycles.l0 k n l many m i) r := by
  induction hw with
  | done m out =>
    intro many hm h1 h2
    refine Ev.step (fun k => ?_) (hr many hm)
    simp only [pomaderef06_Cycles.l0]
    rw [if_neg (by omega)]
  | @skip i m out res hi hb hw ih =>
    intro many hm h1 h2
    have hnext := ih hr (many.set 0 (wrap64 (rd many 0 + 1))) ⟨by rw [List.length_set]; exact hm.1, fun c c1 c2 => by
      rw [rd_set _ (by have := hm.1; omega), if_neg (by omega)]; exact hm.2 c c1 c2⟩ h1 (by omega)
    refine Ev.step (fun k => ?_) (ref_in hl many i r 1 m m i 0 0 h1 hi (by omega) (by omega) hm.1 hn (by simp [wk, hb]) ?_)
    · simp only [pomaderef06_Cycles.l0]
      rw [if_pos (by omega)]
    · rw [w64 (n := (i : Int) + 1) (by omega)]
      exact hnext
  | @take i f m m' out res long hi hb he h1' h2' hw ih =>
    intro many hm h1 h2
    obtain ⟨c, hc⟩ : ∃ c : Nat, long = c := ⟨long.toNat, by omega⟩
    subst hc
    have hv := hm.2 c (by omega) (by omega)
    have hcl := List.count_le_length (l := out) (a := (c : Int))
    have hml : m'.length = n := by
      have : ∀ f m a lo m' lo', wk l f m a lo = some (m', lo') → m'.length = m.length := by
        intro f
        induction f with
        | zero => intro m a lo m' lo' h; simp [wk] at h
        | succ f ihf =>
          intro m a lo m' lo' h
          simp only [wk] at h
          split at h
          · simp at h; rw [← h.1]
          · have := ihf _ _ _ _ _ h; rwa [List.length_set] at this
      rw [this _ _ _ _ _ _ he, h1]
    have hnext := ih hr (many.set c (wrap64 (rd many c + 1))) ⟨by rw [List.length_set]; exact hm.1, fun c' c1 c2 => by
      rw [rd_set _ (by have := hm.1; omega), List.count_append]
      by_cases e : c = c'
      · subst e
        rw [if_pos rfl, hv, w64 (by omega)]
        simp
      · rw [if_neg e, hm.2 c' c1 c2]
        have : ¬ (c : Int) = (c' : Int) := by omega
        simp [this]⟩ hml (by simp; omega)
    refine Ev.step (fun k => ?_) (ref_in hl many i r f m m' i 0 c h1 hi (by omega) (by omega) hm.1 hn he ?_)
    · simp only [pomaderef06_Cycles.l0]
      rw [if_pos (by omega)]
    · rw [w64 (n := (i : Int) + 1) (by omega), Int.toNat_natCast]
      exact hnext

theorem small_v {n k : Int} (h : Circ n k) (h2 : n ≤ 2000) : pomaderef06_small.f n k 2000 = some 0 := by
  unfold pomaderef06_small.f
  rw [circle_ok h, Option.bind_some, if_pos rfl, if_neg (by omega)]

theorem rOrder_v {n : Nat} {k : Int} (h : Circ n k) (h2 : n ≤ 2000) : pomaderef06_Order.f n k = some ((jst k n n).1, 0) := by
  unfold pomaderef06_Order.f
  rw [small_v h (by omega), Option.bind_some, if_pos rfl]
  obtain ⟨h3, h4, h5, h6⟩ := h
  unfold pomaderef06_Played.f
  rw [if_pos (by omega), Option.bind_some, Int.toNat_natCast]

/-- Beyond the limits: one error. -/
theorem no_list {n k : Int} (h : ¬ (Circ n k ∧ n ≤ 2000)) : ∃ e : Int, e ≠ 0 ∧ pole_listed.f n k = some e ∧ pomaderef06_small.f n k 2000 = some e := by
  by_cases hc : Circ n k
  · have hn : n > 2000 := by
      rcases (show n ≤ 2000 ∨ n > 2000 by omega) with h1 | h1
      · exact absurd ⟨hc, h1⟩ h
      · exact h1
    refine ⟨8, by decide, ?_, ?_⟩
    · unfold pole_listed.f; rw [circled_ok hc, Option.bind_some, if_pos rfl, if_pos hn]
    · unfold pomaderef06_small.f; rw [circle_ok hc, Option.bind_some, if_pos rfl, if_pos hn]
  · refine ⟨2, by decide, ?_, ?_⟩
    · unfold pole_listed.f; rw [circled_no hc]; rfl
    · unfold pomaderef06_small.f; rw [circle_no hc]; rfl

theorem order_both (n k : Int) : ∃ r e, pole_Order.f n k = some (r, e) ∧ pomaderef06_Order.f n k = some (r, e) ∧ r.length ≤ 2000 := by
  by_cases h : Circ n k ∧ n ≤ 2000
  · obtain ⟨m, rfl⟩ : ∃ m : Nat, n = (m : Int) := ⟨n.toNat, by have := h.1.1; omega⟩
    exact ⟨_, _, order_v h.1 (by omega), rOrder_v h.1 (by omega), by rw [jst_out]; omega⟩
  · obtain ⟨e, he, h1, h2⟩ := no_list h
    refine ⟨[], e, ?_, ?_, by simp⟩
    · unfold pole_Order.f; rw [h1, Option.bind_some, if_neg he]
    · unfold pomaderef06_Order.f; rw [h2, Option.bind_some, if_neg he]

theorem inverse_both (n k : Int) : ∃ r e, Ev (fun f => pole_Inverse.f f n k) (r, e) ∧ Ev (fun f => pomaderef06_Inverse.f f n k) (r, e) ∧ r.length ≤ 2000 := by
  by_cases h : Circ n k ∧ n ≤ 2000
  · obtain ⟨m, rfl⟩ : ∃ m : Nat, n = (m : Int) := ⟨n.toNat, by have := h.1.1; omega⟩
    obtain ⟨r, e1, e2, p1, _⟩ := ev_Inverse m k h.1 (by omega)
    refine ⟨r, 0, e1, Ev.congr (fun f => ?_) e2, by omega⟩
    simp only [pomaderef06_Inverse.f]
    rw [rOrder_v h.1 (by omega), Option.bind_some, if_pos rfl, if_pos (by omega), if_pos (by omega), Int.toNat_natCast]
  · obtain ⟨e, he, h1, h2⟩ := no_list h
    refine ⟨[], e, ⟨0, fun f _ => ?_⟩, ⟨0, fun f _ => ?_⟩, by simp⟩
    · simp only [pole_Inverse.f]; rw [h1, Option.bind_some, if_neg he]
    · simp only [pomaderef06_Inverse.f, pomaderef06_Order.f]; rw [h2, Option.bind_some, if_neg he, Option.bind_some, if_neg he]

theorem cycles_both (n k : Int) : ∃ r e, Ev (fun f => pole_Cycles.f f n k) (r, e) ∧ Ev (fun f => pomaderef06_Cycles.f f n k) (r, e) ∧ r.length ≤ 2000 := by
  by_cases h : Circ n k ∧ n ≤ 2000
  · obtain ⟨m, rfl⟩ : ∃ m : Nat, n = (m : Int) := ⟨n.toNat, by have := h.1.1; omega⟩
    have hm1 := h.1.1
    obtain ⟨res, m', hw, ho, ⟨K1, e1⟩⟩ := ev_cyc (by omega) (perm_order k m)
    dsimp only at e1
    have hsf := sort_flat res m ho.vals
    have hrl : res.length ≤ m := by have := ho.few; omega
    obtain ⟨K2, e2⟩ := ref_out (by omega) (perm_order k m) hw (flat res 1 m, 0) (fun many hm => by
      have := ev_l2 m (by omega) many res hm (by omega) m 1 [] (by omega) (by omega) (by simp; omega)
      rwa [List.nil_append] at this) (List.replicate (m + 1) 0) ⟨by simp, fun c c1 c2 => by rw [rd_nat]; simp [show c < m + 1 by omega]⟩ (by simp) (by simp)
    dsimp only at e2
    refine ⟨sortI res, 0, ⟨K1, fun f hf => ?_⟩, ⟨K2, fun f hf => ?_⟩, by simp [sortI]; omega⟩
    · have hl : Go.Proofs.Ytndpnlpidphflaa.Pre.pole_listed.f (m : Int) k = some 0 := listed_ok h.1 (by omega)
      simp only [pole_Cycles.f]
      rw [hl, Option.bind_some, if_pos rfl, Int.toNat_natCast, e1 f hf, Option.bind_some]
    · simp only [pomaderef06_Cycles.f]
      rw [rOrder_v h.1 (by omega), Option.bind_some, if_pos rfl, w64 (n := (m : Int) + 1) (by omega), if_pos (by omega), if_pos (by omega), if_pos (by omega), if_pos (by omega), Int.toNat_natCast, show ((m : Int) + 1).toNat = m + 1 by omega, hsf]
      exact e2 f hf
  · obtain ⟨e, he, h1, h2⟩ := no_list h
    refine ⟨[], e, ⟨0, fun f _ => ?_⟩, ⟨0, fun f _ => ?_⟩, by simp⟩
    · have hl : Go.Proofs.Ytndpnlpidphflaa.Pre.pole_listed.f n k = some e := h1
      simp only [pole_Cycles.f]; rw [hl, Option.bind_some, if_neg he]
    · simp only [pomaderef06_Cycles.f, pomaderef06_Order.f]; rw [h2, Option.bind_some, if_neg he, Option.bind_some, if_neg he]

theorem PoleOrders : pomadelaw06_PoleOrders.Pure := by
  intro n k _ _
  obtain ⟨a, ea, o1, o2, ol⟩ := order_both n k
  obtain ⟨b, eb, ⟨K1, e1⟩, ⟨K2, e2⟩, bl⟩ := inverse_both n k
  obtain ⟨c, ec, ⟨K3, e3⟩, ⟨K4, e4⟩, cl⟩ := cycles_both n k
  obtain ⟨K5, h5⟩ := alive_true
  obtain ⟨K6, e6⟩ := ev_same a a (by omega)
  obtain ⟨K7, e7⟩ := ev_same b b (by omega)
  obtain ⟨K8, e8⟩ := ev_same c c (by omega)
  dsimp only at e1 e2 e3 e4 h5 e6 e7 e8
  obtain ⟨g, hg⟩ : ∃ g, max K1 (max K2 (max K3 (max K4 (max K5 (max K6 (max K7 K8)))))) = g := ⟨_, rfl⟩
  refine ⟨g + 2, ?_⟩
  simp only [pomadelaw06_PoleOrders.f]
  rw [o1, o2, Option.bind_some, Option.bind_some, e6 _ (by omega), decide_eq_true rfl, Option.bind_some, if_pos rfl, bne_self_eq_false]
  simp only [pomadelaw06_PoleOrders.j0]
  rw [if_neg (by decide), e1 _ (by omega), e2 _ (by omega), Option.bind_some, Option.bind_some, e7 _ (by omega), decide_eq_true rfl, Option.bind_some, if_pos rfl, bne_self_eq_false]
  simp only [pomadelaw06_PoleOrders.j1]
  rw [if_neg (by decide), e3 _ (by omega), e4 _ (by omega), Option.bind_some, Option.bind_some, e8 _ (by omega), decide_eq_true rfl, Option.bind_some, if_pos rfl, if_pos rfl, h5 _ (by omega)]
  rfl

end Go.Proofs.Ytndpnlpidphflaa.Pure
