-- The greedy seating of customers on a row of chairs, in plain Lean: everybody finds a chair exactly if no chair and those behind it are wished too often. No program here; no condition. (Mine.)
import Derived.ProofKit
import Derived.Test.YtldohjlcckbfaaaGreatDoorMathA
namespace Go.Proofs.YtldohjlcckbfaaaGreatDoor.TopMath
/-- How many chairs from j on are taken. -/
def up (T : List Bool) (j : Nat) : Nat := (T.drop j).countP id
/-- How many wishes are for j or a later chair. -/
def wish (ws : List Nat) (j : Nat) : Nat := ws.countP (fun w => decide (j ≤ w))
/-- The wishes fit behind what is taken. -/
def Fits (m : Nat) (T : List Bool) (ws : List Nat) : Prop := ∀ j, j ≤ m → up T j + wish ws j ≤ m - j
theorem up_end (T : List Bool) : up T T.length = 0 := by unfold up; rw [List.drop_length]; rfl
theorem up_at {T : List Bool} {j : Nat} {b : Bool} (h : T[j]? = some b) : up T j = (if b = true then 1 else 0) + up T (j + 1) := by
  unfold up
  obtain ⟨hj, hb⟩ := List.getElem?_eq_some_iff.1 h
  rw [List.drop_eq_getElem_cons hj, List.countP_cons, hb]
  cases b <;> simp <;> omega
theorem up_le (T : List Bool) (j : Nat) : up T j ≤ T.length - j := by
  unfold up
  have := List.countP_le_length (p := id) (l := T.drop j)
  rw [List.length_drop] at this
  exact this
/-- A run of taken chairs. -/
theorem up_run {T : List Bool} : ∀ (d w : Nat), (∀ i, w ≤ i → i < w + d → T[i]? = some true) → up T w = d + up T (w + d)
  | 0, w, _ => by rw [Nat.zero_add]; rfl
  | d + 1, w, h => by
    rw [up_at (h w (Nat.le_refl _) (by omega)), if_pos rfl, up_run d (w + 1) (fun i h1 h2 => h i (by omega) (by omega))]
    rw [show w + 1 + d = w + (d + 1) by omega]; omega
theorem up_set {T : List Bool} {c : Nat} (h : T[c]? = some false) : ∀ (d j : Nat), j + d = T.length → up (T.set c true) j = up T j + if j ≤ c then 1 else 0
  | 0, j, hj => by
    obtain ⟨hc, _⟩ := List.getElem?_eq_some_iff.1 h
    have e : j = T.length := by omega
    have e2 : j = (T.set c true).length := by rw [List.length_set]; exact e
    rw [if_neg (by omega), e2, up_end, ← e2, e, up_end]
  | d + 1, j, hj => by
    have hc := (List.getElem?_eq_some_iff.1 h).1
    have ih := up_set h d (j + 1) (by omega)
    have hjl : j < T.length := by omega
    have hg : T[j]? = some T[j] := List.getElem?_eq_getElem hjl
    by_cases e : j = c
    · subst e
      have h1 : (T.set j true)[j]? = some true := by rw [List.getElem?_set_self hjl]
      rw [up_at h1, up_at h, ih, if_pos rfl, if_neg (show ¬ j + 1 ≤ j by omega), if_neg (show ¬ false = true by decide), if_pos (Nat.le_refl j)]; omega
    · have h1 : (T.set c true)[j]? = some T[j] := by rw [List.getElem?_set_ne (fun q => e q.symm), hg]
      rw [up_at h1, up_at hg, ih]
      by_cases q : j ≤ c
      · rw [if_pos q, if_pos (show j + 1 ≤ c by omega)]; omega
      · rw [if_neg q, if_neg (show ¬ j + 1 ≤ c by omega)]; omega
theorem wish_cons (w : Nat) (ws : List Nat) (j : Nat) : wish (w :: ws) j = (if j ≤ w then 1 else 0) + wish ws j := by
  unfold wish
  rw [List.countP_cons]
  by_cases h : j ≤ w
  · simp [h]; omega
  · simp [h]
theorem wish_mono (ws : List Nat) {i j : Nat} (h : i ≤ j) : wish ws j ≤ wish ws i := by
  unfold wish
  exact List.countP_mono_left (fun w _ hw => decide_eq_true (Nat.le_trans h (of_decide_eq_true hw)))
/-- A customer who finds a chair: what is left fits exactly if all fitted. -/
theorem fits_seat {m : Nat} {T : List Bool} (hT : T.length = m) {w c : Nat} (hwc : w ≤ c) (hc : T[c]? = some false) (hrun : ∀ i, w ≤ i → i < c → T[i]? = some true) (ws : List Nat) :
    Fits m (T.set c true) ws ↔ Fits m T (w :: ws) := by
  have hcm := (List.getElem?_eq_some_iff.1 hc).1
  have hu := fun j (hj : j ≤ m) => up_set hc (T.length - j) j (by omega)
  constructor
  · intro H j hj
    have := H j hj
    rw [hu j hj] at this
    rw [wish_cons]
    by_cases a : j ≤ w
    · rw [if_pos (show j ≤ c by omega)] at this; rw [if_pos a]; omega
    · rw [if_neg a]; omega
  · intro H j hj
    have h1 := H j hj
    rw [hu j hj]
    rw [wish_cons] at h1
    by_cases a : j ≤ w
    · rw [if_pos a] at h1; rw [if_pos (show j ≤ c by omega)]; omega
    · rw [if_neg a] at h1
      by_cases b : j ≤ c
      · rw [if_pos b]
        have h2 := H w (by omega)
        rw [wish_cons, if_pos (Nat.le_refl w), up_run (j - w) w (fun i h3 h4 => hrun i h3 (by omega)), show w + (j - w) = j by omega] at h2
        have h3 := wish_mono ws (show w ≤ j by omega)
        omega
      · rw [if_neg b]; omega
/-- A customer who finds none: they did not fit. -/
theorem fits_none {m : Nat} {T : List Bool} {w : Nat} (hw : w ≤ m) (hrun : ∀ i, w ≤ i → i < m → T[i]? = some true) (ws : List Nat) : ¬ Fits m T (w :: ws) := by
  intro H
  have h := H w hw
  rw [wish_cons, if_pos (Nat.le_refl w), up_run (m - w) w (fun i h3 h4 => hrun i h3 (by omega))] at h
  omega
theorem fits_nil {m : Nat} {T : List Bool} (hT : T.length = m) : Fits m T [] := by
  intro j _
  have := up_le T j
  show up T j + 0 ≤ m - j
  omega
theorem up_free (n j : Nat) : up (List.replicate n false) j = 0 := by
  unfold up
  rw [List.drop_replicate, List.countP_eq_zero]
  intro b hb
  rw [List.eq_of_mem_replicate hb]; decide
/-- How many wish each of n chairs. -/
def counts (ws : List Nat) (n : Nat) : List Nat := (List.range n).map fun k => ws.countP (fun w => decide (w = k))
theorem counts_length (ws : List Nat) (n : Nat) : (counts ws n).length = n := by simp [counts]
theorem wish_step (ws : List Nat) (j : Nat) : wish ws j = ws.countP (fun w => decide (w = j)) + wish ws (j + 1) := by
  induction ws with
  | nil => rfl
  | cons w t ih =>
    rw [wish_cons, wish_cons, List.countP_cons, ih]
    by_cases a : w = j
    · subst a
      rw [if_pos (Nat.le_refl w), if_neg (show ¬ w + 1 ≤ w by omega), if_pos (by simp)]; omega
    · by_cases b : j ≤ w
      · rw [if_pos b, if_pos (show j + 1 ≤ w by omega), if_neg (by simp [a])]; omega
      · rw [if_neg b, if_neg (show ¬ j + 1 ≤ w by omega), if_neg (by simp [a])]; omega
theorem wish_zero (ws : List Nat) : wish ws 0 = ws.length := by
  unfold wish
  rw [List.countP_eq_length]
  intro w _; simp
theorem counts_take (ws : List Nat) (n : Nat) : ∀ j, j ≤ n → ((counts ws n).take j).sum + wish ws j = ws.length
  | 0, _ => by rw [List.take_zero, wish_zero]; simp
  | j + 1, h => by
    have ih := counts_take ws n j (by omega)
    have hg : (counts ws n)[j]? = some (ws.countP fun w => decide (w = j)) := by
      unfold counts
      rw [List.getElem?_map, List.getElem?_range (by omega)]; rfl
    rw [List.take_add_one, hg, List.sum_append, Option.toList_some, List.sum_singleton]
    rw [wish_step] at ih
    omega
/-- Brackets, read from the left: how many are open behind them; nothing: one is closed that is not open. -/
def scan : Nat → List Bool → Option Nat
  | d, [] => some d
  | d, true :: t => scan (d + 1) t
  | 0, false :: _ => none
  | d + 1, false :: t => scan d t
/-- Chair by chair an opening bracket for each customer, and then a closing one. -/
def blocks (c : List Nat) : List Bool := c.flatMap fun k => List.replicate k true ++ [false]
theorem scan_opens (t : List Bool) : ∀ (a d : Nat), scan d (List.replicate a true ++ t) = scan (d + a) t
  | 0, d => rfl
  | a + 1, d => by
    show scan (d + 1) (List.replicate a true ++ t) = _
    rw [scan_opens t a (d + 1)]
    congr 1; omega
theorem scan_blocks : ∀ (c : List Nat) (d : Nat), ((∀ j, j ≤ c.length → j ≤ d + (c.take j).sum) → scan d (blocks c) = some (d + c.sum - c.length)) ∧ ((¬ ∀ j, j ≤ c.length → j ≤ d + (c.take j).sum) → scan d (blocks c) = none)
  | [], d => ⟨fun _ => by simp [blocks, scan], fun h => absurd (fun j hj => by simp at hj; omega) h⟩
  | a :: c, d => by
    have e : blocks (a :: c) = List.replicate a true ++ false :: blocks c := by simp [blocks]
    rw [e, scan_opens]
    cases hd : d + a with
    | zero =>
      refine ⟨fun h => ?_, fun _ => rfl⟩
      have := h 1 (by simp)
      simp at this; omega
    | succ x =>
      have ih := scan_blocks c x
      have hiff : (∀ j, j ≤ (a :: c).length → j ≤ d + ((a :: c).take j).sum) ↔ (∀ j, j ≤ c.length → j ≤ x + (c.take j).sum) := by
        constructor
        · intro h j hj
          have := h (j + 1) (by simp; omega)
          rw [List.take_succ_cons, List.sum_cons] at this
          omega
        · intro h j hj
          cases j with
          | zero => omega
          | succ j =>
            have := h j (by simp at hj; omega)
            rw [List.take_succ_cons, List.sum_cons]
            omega
      refine ⟨fun h => ?_, fun h => ?_⟩
      · show scan x (blocks c) = _
        rw [ih.1 (hiff.1 h), List.sum_cons, List.length_cons]
        congr 1; omega
      · show scan x (blocks c) = _
        exact ih.2 (fun q => h (hiff.2 q))
/-- The brackets of the wishes are an arch system exactly if all customers fit on the free chairs. -/
theorem arch_iff {ws : List Nat} {n : Nat} (hn : ws.length = n) : (Fits n (List.replicate n false) ws → scan 0 (blocks (counts ws n)) = some 0) ∧ (¬ Fits n (List.replicate n false) ws → scan 0 (blocks (counts ws n)) = none) := by
  have hiff : Fits n (List.replicate n false) ws ↔ ∀ j, j ≤ (counts ws n).length → j ≤ 0 + ((counts ws n).take j).sum := by
    rw [counts_length]
    constructor
    · intro h j hj
      have h1 := h j hj
      have h2 := counts_take ws n j hj
      rw [up_free] at h1
      omega
    · intro h j hj
      have h1 := h j hj
      have h2 := counts_take ws n j hj
      rw [up_free]
      omega
  have hs := scan_blocks (counts ws n) 0
  refine ⟨fun h => ?_, fun h => hs.2 (fun q => h (hiff.2 q))⟩
  rw [hs.1 (hiff.1 h), counts_length]
  have h2 := counts_take ws n n (Nat.le_refl n)
  have h3 := h n (Nat.le_refl n)
  rw [up_free] at h3
  have h4 : (counts ws n).take n = counts ws n := by rw [List.take_of_length_le (by rw [counts_length]; exact Nat.le_refl n)]
  rw [h4] at h2
  congr 1; omega
/-- Each place has another one as its partner. -/
def Pairs (a : List Nat) : Prop := ∀ q, q < a.length → ∃ r, a[q]? = some r ∧ r < a.length ∧ a[r]? = some q ∧ r ≠ q
/-- What is seen when the places below i have been looked at. -/
def Seen (a : List Nat) (i : Nat) (s : List Bool) : Prop := s.length = a.length ∧ ∀ q r, a[q]? = some r → (s[q]? = some true ↔ q < i ∨ r < i)
theorem seen_none (a : List Nat) : Seen a 0 (List.replicate a.length false) := by
  refine ⟨List.length_replicate, fun q r h => ?_⟩
  obtain ⟨hq, _⟩ := List.getElem?_eq_some_iff.1 h
  rw [List.getElem?_replicate, if_pos hq]
  simp
theorem seen_skip {a : List Nat} (ha : Pairs a) {i : Nat} (hi : i < a.length) {s : List Bool} (h : Seen a i s) (hs : s[i]? = some true) : Seen a (i + 1) s := by
  refine ⟨h.1, fun q r hq => ?_⟩
  rw [h.2 q r hq]
  obtain ⟨r2, g1, _, g3, _⟩ := ha i hi
  have hr2 : r2 < i := by
    rcases (h.2 i r2 g1).1 hs with c | c
    · omega
    · exact c
  obtain ⟨hql, _⟩ := List.getElem?_eq_some_iff.1 hq
  obtain ⟨r3, k1, _, k3, _⟩ := ha q hql
  rw [hq] at k1
  have e : r = r3 := Option.some.inj k1
  subst e
  constructor
  · intro c; omega
  · intro c
    rcases c with c | c
    · by_cases e : q = i
      · subst e; rw [g1] at hq; have := Option.some.inj hq; omega
      · omega
    · by_cases e : r = i
      · subst e; rw [g1] at k3; have := Option.some.inj k3; omega
      · omega
theorem seen_mark {a : List Nat} (ha : Pairs a) {i r : Nat} (hi : a[i]? = some r) {s : List Bool} (h : Seen a i s) (hs : s[i]? = some false) :
    Seen a (i + 1) ((s.set i true).set r true) ∧ up ((s.set i true).set r true) 0 = up s 0 + 2 ∧ a[r]? = some i ∧ r < a.length := by
  obtain ⟨hil, _⟩ := List.getElem?_eq_some_iff.1 hi
  obtain ⟨r2, g1, g2, g3, g4⟩ := ha i hil
  rw [hi] at g1
  have e := Option.some.inj g1
  subst e
  have hsl : r < s.length := by rw [h.1]; exact g2
  have hsr : s[r]? = some false := by
    rw [List.getElem?_eq_getElem hsl]
    cases c : s[r] with
    | false => rfl
    | true =>
      rcases (h.2 r i g3).1 (by rw [List.getElem?_eq_getElem hsl, c]) with d | d
      · have := (h.2 i r hi).2 (.inr d)
        rw [hs] at this; cases this
      · omega
  refine ⟨⟨by simp [h.1], fun q x hq => ?_⟩, ?_, g3, g2⟩
  · obtain ⟨hql, _⟩ := List.getElem?_eq_some_iff.1 hq
    obtain ⟨x2, k1, _, k3, _⟩ := ha q hql
    rw [hq] at k1
    have e := Option.some.inj k1
    subst e
    by_cases e1 : q = r
    · subst e1
      rw [List.getElem?_set_self (by simp [h.1, hql])]
      rw [g3] at hq
      have := Option.some.inj hq
      simp; omega
    · rw [List.getElem?_set_ne (fun z => e1 z.symm)]
      by_cases e2 : q = i
      · subst e2
        rw [List.getElem?_set_self (by rw [h.1]; exact hql)]
        simp
      · rw [List.getElem?_set_ne (fun z => e2 z.symm), h.2 q x hq]
        have hx : x ≠ i := by
          intro z; subst z
          rw [hi] at k3
          exact e1 (Option.some.inj k3).symm
        omega
  · have hr1 : (s.set i true)[r]? = some false := by rw [List.getElem?_set_ne (fun z => g4 z.symm), hsr]
    rw [up_set hr1 _ 0 (Nat.zero_add _), up_set hs _ 0 (Nat.zero_add _)]
    rw [if_pos (Nat.zero_le r), if_pos (Nat.zero_le i)]
theorem seen_all {a : List Nat} (ha : Pairs a) {s : List Bool} (h : Seen a a.length s) : up s 0 = a.length := by
  unfold up
  rw [List.drop_zero, ← h.1, List.countP_eq_length]
  intro b hb
  obtain ⟨q, hq, rfl⟩ := List.getElem_of_mem hb
  have hql : q < a.length := by rw [← h.1]; exact hq
  obtain ⟨r, g1, _⟩ := ha q hql
  have := (h.2 q r g1).2 (.inl hql)
  rw [List.getElem?_eq_getElem hq] at this
  exact Option.some.inj this
/-- The partners, read from the left: places that are open, the last one first, and what is known. -/
def part : List Bool → Nat → List Nat → List Nat → Option (List Nat)
  | [], _, [], out => some out
  | [], _, _ :: _, _ => none
  | true :: t, i, o, out => part t (i + 1) (i :: o) out
  | false :: _, _, [], _ => none
  | false :: t, i, k :: o, out => part t (i + 1) o ((out.set i k).set k i)
/-- What is known in the middle. -/
structure Mid (i : Nat) (o out : List Nat) : Prop where
  below : ∀ q, q ∈ o → q < i
  apart : o.Nodup
  known : ∀ q, q < i → q ∉ o → ∃ r, out[q]? = some r ∧ r < i ∧ r ∉ o ∧ out[r]? = some q ∧ r ≠ q
theorem part_is (n : Nat) : ∀ (t : List Bool) (i : Nat) (o out : List Nat), out.length = n → i + t.length = n → Mid i o out →
    (scan o.length t = some 0 → ∃ a, part t i o out = some a ∧ a.length = n ∧ Pairs a) ∧ (scan o.length t ≠ some 0 → part t i o out = none)
  | [], i, o, out, hl, hi, hm => by
    cases o with
    | nil =>
      refine ⟨fun _ => ⟨out, rfl, hl, fun q hq => ?_⟩, fun h => absurd rfl h⟩
      simp at hi
      obtain ⟨r, g1, g2, _, g4, g5⟩ := hm.known q (by omega) (by simp)
      exact ⟨r, g1, by omega, g4, g5⟩
    | cons k o => exact ⟨fun h => by simp [scan] at h, fun _ => rfl⟩
  | true :: t, i, o, out, hl, hi, hm => by
    have h : Mid (i + 1) (i :: o) out := by
      refine ⟨fun q hq => ?_, ?_, fun q hq hqo => ?_⟩
      · rcases List.mem_cons.1 hq with rfl | c
        · omega
        · have := hm.below q c; omega
      · exact List.nodup_cons.2 ⟨fun c => absurd (hm.below i c) (Nat.lt_irrefl i), hm.apart⟩
      · have h1 : q ≠ i := fun c => hqo (by rw [c]; simp)
        obtain ⟨r, g1, g2, g3, g4, g5⟩ := hm.known q (by omega) (fun c => hqo (List.mem_cons_of_mem _ c))
        exact ⟨r, g1, by omega, fun c => (List.mem_cons.1 c).elim (fun z => by omega) g3, g4, g5⟩
    have ih := part_is n t (i + 1) (i :: o) out hl (by simp at hi; omega) h
    exact ih
  | false :: t, i, [], out, _, _, _ => ⟨fun h => by simp [scan] at h, fun _ => rfl⟩
  | false :: t, i, k :: o, out, hl, hi, hm => by
    have hk := hm.below k (by simp)
    have hno := List.nodup_cons.1 hm.apart
    have hil : i < out.length := by simp at hi; omega
    have h : Mid (i + 1) o ((out.set i k).set k i) := by
      refine ⟨fun q hq => ?_, hno.2, fun q hq hqo => ?_⟩
      · have := hm.below q (List.mem_cons_of_mem _ hq); omega
      · by_cases e1 : q = k
        · subst e1
          refine ⟨i, by rw [List.getElem?_set_self (by rw [List.length_set]; omega)], by omega, fun c => absurd (hm.below i (List.mem_cons_of_mem _ c)) (Nat.lt_irrefl i), ?_, by omega⟩
          rw [List.getElem?_set_ne (by omega), List.getElem?_set_self hil]
        · by_cases e2 : q = i
          · subst e2
            refine ⟨k, by rw [List.getElem?_set_ne (by omega), List.getElem?_set_self hil], by omega, hno.1, ?_, by omega⟩
            rw [List.getElem?_set_self (by rw [List.length_set]; omega)]
          · obtain ⟨r, g1, g2, g3, g4, g5⟩ := hm.known q (by omega) (fun c => (List.mem_cons.1 c).elim e1 hqo)
            have e3 : r ≠ k := fun c => g3 (by rw [c]; simp)
            refine ⟨r, by rw [List.getElem?_set_ne (fun z => e1 z.symm), List.getElem?_set_ne (fun z => e2 z.symm), g1], by omega, fun c => g3 (List.mem_cons_of_mem _ c), ?_, g5⟩
            rw [List.getElem?_set_ne (fun z => e3 z.symm), List.getElem?_set_ne (by omega), g4]
    exact part_is n t (i + 1) o _ (by rw [List.length_set, List.length_set, hl]) (by simp at hi; omega) h
theorem part_start (s : List Bool) : (scan 0 s = some 0 → ∃ a, part s 0 [] (List.replicate s.length 0) = some a ∧ a.length = s.length ∧ Pairs a) ∧ (scan 0 s ≠ some 0 → part s 0 [] (List.replicate s.length 0) = none) :=
  part_is s.length s 0 [] _ List.length_replicate (Nat.zero_add _) ⟨fun q h => by simp at h, List.nodup_nil, fun q h => absurd h (Nat.not_lt_zero q)⟩
open Go.Proofs.YtldohjlcckbfaaaGreatDoor.Math
/-- 1 less the customers, from the last place of a circle down to the first. -/
def amounts (w : List Nat) (n : Nat) : List Int := (List.range (n + 1)).map fun i => 1 - ((w.countP (fun x => decide (x = n - i)) : Nat) : Int)
theorem amounts_length (w : List Nat) (n : Nat) : (amounts w n).length = n + 1 := by simp [amounts]
/-- Wishes with a number added, around the circle. -/
def turned (w : List Nat) (n t : Nat) : List Nat := w.map fun x => (x + t) % (n + 1)
theorem turn_place {n t i x : Nat} (ht : t ≤ n) (hi : i ≤ n) (hx : x ≤ n) : x = n - (t + i) % (n + 1) ↔ (x + t) % (n + 1) = n - i := by
  have e1 : (t + i) % (n + 1) = if t + i ≤ n then t + i else t + i - (n + 1) := by
    split
    · exact Nat.mod_eq_of_lt (by omega)
    · rw [Nat.mod_eq_sub_mod (by omega)]; exact Nat.mod_eq_of_lt (by omega)
  have e2 : (x + t) % (n + 1) = if x + t ≤ n then x + t else x + t - (n + 1) := by
    split
    · exact Nat.mod_eq_of_lt (by omega)
    · rw [Nat.mod_eq_sub_mod (by omega)]; exact Nat.mod_eq_of_lt (by omega)
  rw [e1, e2]
  split <;> split <;> omega
theorem per_amounts {w : List Nat} {n t i : Nat} (hw : ∀ x ∈ w, x ≤ n) (ht : t ≤ n) (hi : i ≤ n) :
    per (amounts w n) (t + i) = 1 - (((turned w n t).countP (fun x => decide (x = n - i)) : Nat) : Int) := by
  unfold per
  rw [amounts_length]
  have hlt : (t + i) % (n + 1) < n + 1 := Nat.mod_lt _ (by omega)
  unfold amounts
  rw [List.getD_eq_getElem?_getD, List.getElem?_map, List.getElem?_range hlt]
  show 1 - ((w.countP (fun x => decide (x = n - (t + i) % (n + 1))) : Nat) : Int) = _
  unfold turned
  rw [List.countP_map]
  have : w.countP (fun x => decide (x = n - (t + i) % (n + 1))) = w.countP ((fun x => decide (x = n - i)) ∘ fun x => (x + t) % (n + 1)) := by
    refine List.countP_congr fun x hx => ?_
    rw [Function.comp_apply, decide_eq_true_iff, decide_eq_true_iff]
    exact turn_place ht hi (hw x hx)
  rw [this]
theorem wish_over {u : List Nat} {n : Nat} (hu : ∀ x ∈ u, x ≤ n) : wish u (n + 1) = 0 := by
  unfold wish
  rw [List.countP_eq_zero]
  intro x hx
  have := hu x hx
  simp; omega
theorem S_turn {w : List Nat} {n t : Nat} (hw : ∀ x ∈ w, x ≤ n) (ht : t ≤ n) : ∀ j, j ≤ n + 1 →
    S (amounts w n) (t + j) = S (amounts w n) t + (j : Int) - ((wish (turned w n t) (n + 1 - j) : Nat) : Int)
  | 0, _ => by
    have : ∀ x ∈ turned w n t, x ≤ n := fun x hx => by
      unfold turned at hx
      obtain ⟨y, _, rfl⟩ := List.mem_map.1 hx
      exact Nat.le_of_lt_succ (Nat.mod_lt _ (by omega))
    rw [Nat.sub_zero, wish_over this]
    simp
  | j + 1, h => by
    have ih := S_turn hw ht j (by omega)
    have hs := wish_step (turned w n t) (n - j)
    rw [show t + (j + 1) = (t + j) + 1 by omega, S, ih, per_amounts hw ht (by omega)]
    rw [show n + 1 - (j + 1) = n - j by omega, hs, show n - j + 1 = n + 1 - j by omega]
    omega
/-- A turn lets all customers sit exactly if the rotation's balances are above 0. -/
theorem turn_good {w : List Nat} {n t : Nat} (hw : ∀ x ∈ w, x ≤ n) (ht : t ≤ n) : good (amounts w n) t = true ↔ Fits n (List.replicate n false) (turned w n t) := by
  rw [good_iff, amounts_length]
  constructor
  · intro h j hj
    have h1 := h (n - j) (by omega)
    rw [show t + (n - j) + 1 = t + (n - j + 1) by omega, S_turn hw ht (n - j + 1) (by omega), show n + 1 - (n - j + 1) = j by omega] at h1
    rw [up_free]
    omega
  · intro h j hj
    have h1 := h (n - j) (by omega)
    rw [up_free] at h1
    rw [show t + j + 1 = t + (j + 1) by omega, S_turn hw ht (j + 1) (by omega), show n + 1 - (j + 1) = n - j by omega]
    omega
theorem amounts_sum {w : List Nat} {n : Nat} (hw : ∀ x ∈ w, x ≤ n) (hl : w.length = n) : (amounts w n).sum = 1 := by
  have h := S_turn hw (Nat.zero_le n) (n + 1) (Nat.le_refl _)
  rw [S_take _ _ (by rw [amounts_length]; omega), S, Nat.sub_self, wish_zero, Nat.zero_add, List.take_of_length_le (by rw [amounts_length]; exact Nat.le_refl _)] at h
  unfold turned at h
  rw [List.length_map, hl] at h
  rw [h]; omega
/-- The turn is the only rotation. -/
theorem turn_is {w : List Nat} {n : Nat} (hw : ∀ x ∈ w, x ≤ n) (hl : w.length = n) : ∃ r, goods (amounts w n) (n + 1) = [r] ∧ r ≤ n ∧ (∀ t, t ≤ n → (Fits n (List.replicate n false) (turned w n t) ↔ t = r)) := by
  obtain ⟨r, h1, h2⟩ := raney (amounts w n) (amounts_sum hw hl)
  rw [amounts_length] at h1 h2
  refine ⟨r, h1, by omega, fun t ht => ?_⟩
  rw [← turn_good hw ht]
  have : t ∈ goods (amounts w n) (n + 1) ↔ good (amounts w n) t = true := by
    unfold goods
    rw [List.mem_filter, List.mem_range]
    exact ⟨fun h => h.2, fun h => ⟨by omega, h⟩⟩
  rw [← this, h1, List.mem_singleton]
end Go.Proofs.YtldohjlcckbfaaaGreatDoor.TopMath
