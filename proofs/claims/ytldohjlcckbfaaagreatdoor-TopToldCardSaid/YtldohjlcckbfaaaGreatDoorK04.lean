/- A part of the proof that pomadetop.TopTold returns true for every input: XHooks, XFar. No condition beyond those that each theorem states. -/
import Derived.ProofKit
namespace TopHooks
structure Inv (n : Nat) (d : Nat → Nat) : Prop where
  lt : ∀ p, p < 2 * n → d p < 2 * n
  ne : ∀ p, p < 2 * n → d p ≠ p
  back : ∀ p, p < 2 * n → d (d p) = p
def step (n : Nat) (d o : Nat → Nat) : Bool × Nat → Nat ⊕ (Bool × Nat)
  | (true, p) => if d p < n then .inl (d p) else .inr (false, d p - n)
  | (false, p) => if o p < n then .inr (true, o p + n) else .inl (o p)
def way (n : Nat) (d o : Nat → Nat) : Nat → Bool × Nat → Option Nat
  | 0, _ => none
  | k + 1, s => match step n d o s with
    | .inl q => some q
    | .inr s' => way n d o k s'
theorem step_true (n : Nat) (d o : Nat → Nat) (p : Nat) : step n d o (true, p) = if d p < n then .inl (d p) else .inr (false, d p - n) := rfl
theorem step_false (n : Nat) (d o : Nat → Nat) (p : Nat) : step n d o (false, p) = if o p < n then .inr (true, o p + n) else .inl (o p) := rfl
def Ok (n : Nat) (s : Bool × Nat) : Prop := s.2 < 2 * n
def Out (n : Nat) (s : Bool × Nat) : Prop := s.2 < 2 * n ∧ (s.1 = true ↔ s.2 < n)
theorem step_ok {n : Nat} {d o : Nat → Nat} (hd : Inv n d) {s s' : Bool × Nat} (hs : Ok n s) (h : step n d o s = .inr s') : Ok n s' ∧ ¬ Out n s' := by
  obtain ⟨u, p⟩ := s
  have hp : p < 2 * n := hs
  cases u with
  | true =>
    rw [step_true] at h
    split at h
    · cases h
    · rename_i c
      have := hd.lt p hp
      injection h with h
      subst h
      refine ⟨show d p - n < 2 * n by omega, fun q => ?_⟩
      have := q.2
      simp at this
      omega
  | false =>
    rw [step_false] at h
    split at h
    · rename_i c
      injection h with h
      subst h
      refine ⟨show o p + n < 2 * n by omega, fun q => ?_⟩
      have := q.2.1 rfl
      have : o p + n < n := this
      omega
    · cases h
theorem step_inj {n : Nat} {d o : Nat → Nat} (hd : Inv n d) (ho : Inv n o) {s t s' : Bool × Nat} (hs : Ok n s) (ht : Ok n t) (h : step n d o s = .inr s') (g : step n d o t = .inr s') : s = t := by
  obtain ⟨u, p⟩ := s
  obtain ⟨v, q⟩ := t
  have hp : p < 2 * n := hs
  have hq : q < 2 * n := ht
  cases u with
  | true =>
    rw [step_true] at h
    split at h
    · cases h
    · rename_i c
      injection h with h
      subst h
      cases v with
      | true =>
        rw [step_true] at g
        split at g
        · cases g
        · rename_i c2
          injection g with g
          have e : d q - n = d p - n := congrArg Prod.snd g
          have e2 : d p = d q := by omega
          have := congrArg d e2
          rw [hd.back p hp, hd.back q hq] at this
          rw [this]
      | false =>
        rw [step_false] at g
        split at g
        · injection g with g
          cases congrArg Prod.fst g
        · cases g
  | false =>
    rw [step_false] at h
    split at h
    · rename_i c
      injection h with h
      subst h
      cases v with
      | true =>
        rw [step_true] at g
        split at g
        · cases g
        · injection g with g
          cases congrArg Prod.fst g
      | false =>
        rw [step_false] at g
        split at g
        · rename_i c2
          injection g with g
          have e : o q + n = o p + n := congrArg Prod.snd g
          have e2 : o p = o q := by omega
          have := congrArg o e2
          rw [ho.back p hp, ho.back q hq] at this
          rw [this]
        · cases g
    · cases h
theorem ends {n : Nat} {d o : Nat → Nat} (hd : Inv n d) (ho : Inv n o) : ∀ (m : Nat) (S : List (Bool × Nat)), S.length ≤ m → (∀ s ∈ S, Ok n s) → (∀ s ∈ S, ∀ s', step n d o s = .inr s' → s' ∈ S) →
    ∀ x, x ∈ S → (∀ s ∈ S, step n d o s ≠ .inr x) → ∃ q, way n d o m x = some q
  | 0, S, hm, _, _, x, hx, _ => by
    have := List.length_pos_of_mem hx
    omega
  | m + 1, S, hm, hok, hcl, x, hx, hno => by
    unfold way
    cases h : step n d o x with
    | inl q => exact ⟨q, rfl⟩
    | inr y =>
      have hy := hcl x hx y h
      have hyx : y ≠ x := fun e => hno x hx (e ▸ h)
      have hlen : (S.filter fun s => decide (s ≠ x)).length < S.length := by
        refine List.length_filter_lt_length_iff_exists.2 ⟨x, hx, by simp⟩
      refine ends hd ho m (S.filter fun s => decide (s ≠ x)) (by omega) (fun s hs => hok s (List.mem_filter.1 hs).1) (fun s hs s' hs' => ?_) y (List.mem_filter.2 ⟨hy, by simp [hyx]⟩) (fun s hs e => ?_)
      · have hs0 := (List.mem_filter.1 hs).1
        refine List.mem_filter.2 ⟨hcl s hs0 s' hs', ?_⟩
        refine decide_eq_true fun e => ?_
        exact hno s hs0 (e ▸ hs')
      · have hs0 := (List.mem_filter.1 hs).1
        have := step_inj hd ho (hok s hs0) (hok x hx) e h
        have h2 := (List.mem_filter.1 hs).2
        simp [this] at h2
def all (n : Nat) : List (Bool × Nat) := (List.range (2 * n)).map (fun p => (true, p)) ++ (List.range (2 * n)).map (fun p => (false, p))
theorem mem_all {n : Nat} {s : Bool × Nat} : s ∈ all n ↔ Ok n s := by
  obtain ⟨u, p⟩ := s
  unfold all Ok
  cases u <;> simp
theorem all_length (n : Nat) : (all n).length = 4 * n := by unfold all; simp; omega
theorem way_ends {n : Nat} {d o : Nat → Nat} (hd : Inv n d) (ho : Inv n o) {x : Bool × Nat} (hx : Out n x) : ∃ q, way n d o (4 * n) x = some q := by
  refine ends hd ho (4 * n) (all n) (by rw [all_length]; exact Nat.le_refl _) (fun s h => mem_all.1 h) (fun s h s' e => mem_all.2 (step_ok hd (mem_all.1 h) e).1) x (mem_all.2 hx.1) (fun s h e => (step_ok hd (mem_all.1 h) e).2 hx)
theorem way_more {n : Nat} {d o : Nat → Nat} {q : Nat} : ∀ (k : Nat) (s : Bool × Nat), way n d o k s = some q → way n d o (k + 1) s = some q
  | 0, s, h => by cases h
  | k + 1, s, h => by
    unfold way at h ⊢
    cases e : step n d o s with
    | inl r => rw [e] at h; exact h
    | inr s' => rw [e] at h; exact way_more k s' h
def jump (d o : Nat → Nat) : Bool × Nat → Bool × Nat
  | (true, p) => (true, d p)
  | (false, p) => (false, o p)
def start (n q : Nat) : Bool × Nat := (decide (q < n), q)
theorem start_out {n q : Nat} (h : q < 2 * n) : Out n (start n q) := ⟨h, by simp [start]⟩
theorem jump_ok {n : Nat} {d o : Nat → Nat} (hd : Inv n d) (ho : Inv n o) {s : Bool × Nat} (hs : Ok n s) : Ok n (jump d o s) := by
  obtain ⟨u, p⟩ := s
  cases u with
  | true => exact hd.lt p hs
  | false => exact ho.lt p hs
theorem jump_jump {n : Nat} {d o : Nat → Nat} (hd : Inv n d) (ho : Inv n o) {s : Bool × Nat} (hs : Ok n s) : jump d o (jump d o s) = s := by
  obtain ⟨u, p⟩ := s
  cases u with
  | true => exact congrArg (Prod.mk true) (hd.back p hs)
  | false => exact congrArg (Prod.mk false) (ho.back p hs)
theorem step_inl {n : Nat} {d o : Nat → Nat} {s : Bool × Nat} {q : Nat} (h : step n d o s = .inl q) : jump d o s = start n q := by
  obtain ⟨u, p⟩ := s
  cases u with
  | true =>
    rw [step_true] at h
    split at h
    · rename_i c
      injection h with h
      subst h
      simp [jump, start, c]
    · cases h
  | false =>
    rw [step_false] at h
    split at h
    · cases h
    · rename_i c
      injection h with h
      subst h
      simp [jump, start]
      omega
theorem step_back {n : Nat} {d o : Nat → Nat} (hd : Inv n d) (ho : Inv n o) {s s' : Bool × Nat} (hs : Ok n s) (h : step n d o s = .inr s') : step n d o (jump d o s') = .inr (jump d o s) := by
  obtain ⟨u, p⟩ := s
  cases u with
  | true =>
    rw [step_true] at h
    split at h
    · cases h
    · rename_i c
      have hp := hd.lt p hs
      injection h with h
      subst h
      show step n d o (false, o (d p - n)) = .inr (true, d p)
      rw [step_false, ho.back (d p - n) (by omega), if_pos (by omega), Nat.sub_add_cancel (by omega)]
  | false =>
    rw [step_false] at h
    split at h
    · rename_i c
      injection h with h
      subst h
      show step n d o (true, d (o p + n)) = .inr (false, o p)
      rw [step_true, hd.back (o p + n) (by omega), if_neg (by omega), Nat.add_sub_cancel]
    · cases h
theorem step_jump_out {n : Nat} {d o : Nat → Nat} (hd : Inv n d) (ho : Inv n o) {q : Nat} (hq : q < 2 * n) : step n d o (jump d o (start n q)) = .inl q := by
  unfold start
  by_cases c : q < n
  · rw [decide_eq_true c]
    show step n d o (true, d q) = .inl q
    rw [step_true, hd.back q hq, if_pos c]
  · rw [decide_eq_false c]
    show step n d o (false, o q) = .inl q
    rw [step_false, ho.back q hq, if_neg c]
theorem way_le {n : Nat} {d o : Nat → Nat} {q : Nat} {k : Nat} {s : Bool × Nat} (h : way n d o k s = some q) : ∀ m, way n d o (k + m) s = some q
  | 0 => h
  | m + 1 => way_more (k + m) s (way_le h m)
theorem way_rev {n : Nat} {d o : Nat → Nat} (hd : Inv n d) (ho : Inv n o) {q r : Nat} : ∀ (k : Nat) (s : Bool × Nat) (j : Nat), Ok n s → way n d o k s = some q → way n d o j (jump d o s) = some r → way n d o (j + k) (start n q) = some r
  | 0, s, j, _, h, _ => by cases h
  | k + 1, s, j, hs, h, g => by
    unfold way at h
    cases e : step n d o s with
    | inl a =>
      rw [e] at h
      injection h with h
      subst h
      rw [← step_inl e]
      exact way_le g (k + 1)
    | inr s' =>
      rw [e] at h
      have g2 : way n d o (j + 1) (jump d o s') = some r := by
        unfold way
        rw [step_back hd ho hs e]
        exact g
      have := way_rev hd ho k s' (j + 1) (step_ok hd hs e).1 h g2
      rw [show j + (k + 1) = j + 1 + k by omega]
      exact this
theorem way_same {n : Nat} {d o : Nat → Nat} {q r : Nat} {k m : Nat} {s : Bool × Nat} (h : way n d o k s = some q) (g : way n d o m s = some r) : q = r := by
  have h2 := way_le h m
  have g2 := way_le g k
  rw [Nat.add_comm] at g2
  rw [h2] at g2
  injection g2
theorem way_back {n : Nat} {d o : Nat → Nat} (hd : Inv n d) (ho : Inv n o) {p q k : Nat} (hp : p < 2 * n) (h : way n d o k (start n p) = some q) : way n d o (1 + k) (start n q) = some p := by
  refine way_rev hd ho k (start n p) 1 hp h ?_
  unfold way
  rw [step_jump_out hd ho hp]
theorem way_lt {n : Nat} {d o : Nat → Nat} (hd : Inv n d) (ho : Inv n o) {q : Nat} : ∀ (k : Nat) (s : Bool × Nat), Ok n s → way n d o k s = some q → q < 2 * n
  | 0, s, _, h => by cases h
  | k + 1, s, hs, h => by
    unfold way at h
    cases e : step n d o s with
    | inl a =>
      rw [e] at h
      injection h with h
      subst h
      have := jump_ok hd ho hs
      rw [step_inl e] at this
      exact this
    | inr s' =>
      rw [e] at h
      exact way_lt hd ho k s' (step_ok hd hs e).1 h
def trace (n : Nat) (d o : Nat → Nat) : Nat → Bool × Nat → Option (Bool × Nat)
  | 0, s => some s
  | k + 1, s => match step n d o s with
    | .inl _ => none
    | .inr s' => trace n d o k s'
theorem trace_snoc {n : Nat} {d o : Nat → Nat} {t : Bool × Nat} : ∀ (k : Nat) (s : Bool × Nat), trace n d o (k + 1) s = some t → ∃ t0, trace n d o k s = some t0 ∧ step n d o t0 = .inr t
  | 0, s, h => by
    unfold trace at h
    cases e : step n d o s with
    | inl a => rw [e] at h; cases h
    | inr s' =>
      rw [e] at h
      injection h with h
      exact ⟨s, rfl, h ▸ e⟩
  | k + 1, s, h => by
    unfold trace at h
    cases e : step n d o s with
    | inl a => rw [e] at h; cases h
    | inr s' =>
      rw [e] at h
      obtain ⟨t0, a, b⟩ := trace_snoc k s' h
      refine ⟨t0, ?_, b⟩
      unfold trace
      rw [e]
      exact a
theorem trace_ok {n : Nat} {d o : Nat → Nat} (hd : Inv n d) {t : Bool × Nat} : ∀ (k : Nat) (s : Bool × Nat), Ok n s → trace n d o k s = some t → Ok n t
  | 0, s, hs, h => by injection h with h; exact h ▸ hs
  | k + 1, s, hs, h => by
    unfold trace at h
    cases e : step n d o s with
    | inl a => rw [e] at h; cases h
    | inr s' => rw [e] at h; exact trace_ok hd k s' (step_ok hd hs e).1 h
theorem way_trace {n : Nat} {d o : Nat → Nat} {q : Nat} : ∀ (k : Nat) (s : Bool × Nat), way n d o k s = some q → ∃ j t, trace n d o j s = some t ∧ step n d o t = .inl q
  | 0, s, h => by cases h
  | k + 1, s, h => by
    unfold way at h
    cases e : step n d o s with
    | inl a =>
      rw [e] at h
      injection h with h
      exact ⟨0, s, rfl, h ▸ e⟩
    | inr s' =>
      rw [e] at h
      obtain ⟨j, t, a, b⟩ := way_trace k s' h
      refine ⟨j + 1, t, ?_, b⟩
      unfold trace
      rw [e]
      exact a
theorem step_cross {n : Nat} {d o : Nat → Nat} {s s' : Bool × Nat} (h : step n d o s = .inr s') : s'.1 = !s.1 := by
  obtain ⟨u, p⟩ := s
  cases u with
  | true =>
    rw [step_true] at h
    split at h
    · cases h
    · injection h with h
      subst h
      rfl
  | false =>
    rw [step_false] at h
    split at h
    · injection h with h
      subst h
      rfl
    · cases h
theorem jump_fst {d o : Nat → Nat} (s : Bool × Nat) : (jump d o s).1 = s.1 := by
  obtain ⟨u, p⟩ := s
  cases u <;> rfl
theorem jump_ne {n : Nat} {d o : Nat → Nat} (hd : Inv n d) (ho : Inv n o) {s : Bool × Nat} (hs : Ok n s) : jump d o s ≠ s := by
  obtain ⟨u, p⟩ := s
  cases u with
  | true => exact fun e => hd.ne p hs (congrArg Prod.snd e)
  | false => exact fun e => ho.ne p hs (congrArg Prod.snd e)
theorem trace_ne {n : Nat} {d o : Nat → Nat} (hd : Inv n d) (ho : Inv n o) {t : Bool × Nat} : ∀ (k : Nat) (s : Bool × Nat), Ok n s → trace n d o k s = some t → t ≠ jump d o s
  | 0, s, hs, h => by
    injection h with h
    subst h
    exact fun e => jump_ne hd ho hs e.symm
  | 1, s, hs, h => fun e => by
    obtain ⟨t0, a, b⟩ := trace_snoc 0 s h
    injection a with a
    subst a
    have c := step_cross b
    rw [e, jump_fst] at c
    cases hu : s.1 <;> rw [hu] at c <;> cases c
  | k + 2, s, hs, h => fun e => by
    obtain ⟨t0, a, b⟩ := trace_snoc (k + 1) s h
    unfold trace at a
    cases f : step n d o s with
    | inl x => rw [f] at a; cases a
    | inr s1 =>
      rw [f] at a
      have hs1 := (step_ok hd hs f).1
      have ht0 := trace_ok hd k s1 hs1 a
      have g := step_back hd ho ht0 b
      rw [e, jump_jump hd ho hs, f] at g
      injection g with g
      refine trace_ne hd ho k s1 hs1 a ?_
      rw [g, jump_jump hd ho ht0]
theorem way_ne {n : Nat} {d o : Nat → Nat} (hd : Inv n d) (ho : Inv n o) {p q k : Nat} (hp : p < 2 * n) (h : way n d o k (start n p) = some q) : q ≠ p := fun e => by
  subst e
  obtain ⟨j, t, a, b⟩ := way_trace k _ h
  have ht := trace_ok hd j _ (show Ok n (start n q) from hp) a
  have := step_inl b
  refine trace_ne hd ho j _ (show Ok n (start n q) from hp) a ?_
  rw [← this, jump_jump hd ho ht]
def out (n : Nat) (d o : Nat → Nat) (p : Nat) : Nat := (way n d o (4 * n) (start n p)).getD 0
theorem out_way {n : Nat} {d o : Nat → Nat} (hd : Inv n d) (ho : Inv n o) {p : Nat} (hp : p < 2 * n) : way n d o (4 * n) (start n p) = some (out n d o p) := by
  obtain ⟨q, h⟩ := way_ends hd ho (start_out hp)
  unfold out
  rw [h]
  rfl
theorem out_inv {n : Nat} {d o : Nat → Nat} (hd : Inv n d) (ho : Inv n o) : Inv n (out n d o) where
  lt p hp := way_lt hd ho _ _ (show Ok n (start n p) from hp) (out_way hd ho hp)
  ne p hp := way_ne hd ho hp (out_way hd ho hp)
  back p hp := by
    have h := out_way hd ho hp
    have hq := way_lt hd ho _ _ (show Ok n (start n p) from hp) h
    exact way_same (out_way hd ho hq) (way_back hd ho hp h)
def mid (n : Nat) : Bool × Nat → Nat
  | (true, p) => p - n
  | (false, p) => p
def M (n : Nat) (d o : Nat → Nat) (m : Nat) : Prop := ∃ p j t, p < 2 * n ∧ trace n d o (j + 1) (start n p) = some t ∧ mid n t = m
theorem trace_one {n : Nat} {d o : Nat → Nat} {s t : Bool × Nat} (h : step n d o s = .inr t) : trace n d o 1 s = some t := by
  unfold trace
  rw [h]
  rfl
theorem trace_add {n : Nat} {d o : Nat → Nat} {t u : Bool × Nat} (g : step n d o t = .inr u) : ∀ (k : Nat) (s : Bool × Nat), trace n d o k s = some t → trace n d o (k + 1) s = some u
  | 0, s, h => by
    injection h with h
    subst h
    exact trace_one g
  | k + 1, s, h => by
    unfold trace at h ⊢
    cases e : step n d o s with
    | inl a => rw [e] at h; cases h
    | inr s' => rw [e] at h; exact trace_add g k s' h
theorem M_o_out {n : Nat} {d o : Nat → Nat} (ho : Inv n o) {m : Nat} (hm : m < n) (h : n ≤ o m) : M n d o m := by
  have e : start n (o m) = (false, o m) := by simp [start]; omega
  have hl := ho.lt m (by omega)
  refine ⟨o m, 0, (true, m + n), hl, trace_one ?_, show m + n - n = m by omega⟩
  rw [e, step_false, ho.back m (by omega), if_pos hm]
theorem M_d_out {n : Nat} {d o : Nat → Nat} (hd : Inv n d) {m : Nat} (hm : m < n) (h : d (m + n) < n) : M n d o m := by
  have e : start n (d (m + n)) = (true, d (m + n)) := by simp [start, h]
  refine ⟨d (m + n), 0, (false, m), by omega, trace_one ?_, rfl⟩
  rw [e, step_true, hd.back (m + n) (by omega), if_neg (by omega), Nat.add_sub_cancel]
theorem M_o {n : Nat} {d o : Nat → Nat} (hd : Inv n d) (ho : Inv n o) {m : Nat} (hm : m < n) (hl : o m < n) (h : M n d o (o m)) : M n d o m := by
  obtain ⟨p, j, ⟨u, q⟩, hp, a, b⟩ := h
  cases u with
  | false =>
    have b : q = o m := b
    subst b
    refine ⟨p, j + 1, (true, m + n), hp, trace_add ?_ (j + 1) _ a, show m + n - n = m by omega⟩
    rw [step_false, ho.back m (by omega), if_pos hm]
  | true =>
    have b : q - n = o m := b
    obtain ⟨⟨v, r⟩, a0, g⟩ := trace_snoc j _ a
    have hr := trace_ok hd j _ (show Ok n (start n p) from hp) a0
    have c := step_cross g
    cases v with
    | true => cases c
    | false =>
      rw [step_false] at g
      split at g
      · injection g with g
        have g : o r + n = q := congrArg Prod.snd g
        have e : o r = o m := by omega
        have e := congrArg o e
        rw [ho.back r hr, ho.back m (by omega)] at e
        subst e
        cases j with
        | zero =>
          injection a0 with a0
          have x : p = r := congrArg Prod.snd a0
          have y : decide (p < n) = false := congrArg Prod.fst a0
          have := of_decide_eq_false y
          omega
        | succ j => exact ⟨p, j, (false, r), hp, a0, rfl⟩
      · cases g
theorem M_d {n : Nat} {d o : Nat → Nat} (hd : Inv n d) {m : Nat} (hm : m < n) (hl : n ≤ d (m + n)) (h : M n d o (d (m + n) - n)) : M n d o m := by
  obtain ⟨p, j, ⟨u, q⟩, hp, a, b⟩ := h
  have hq := trace_ok hd (j + 1) _ (show Ok n (start n p) from hp) a
  obtain ⟨⟨v, r⟩, a0, g⟩ := trace_snoc j _ a
  have hr := trace_ok hd j _ (show Ok n (start n p) from hp) a0
  have c := step_cross g
  cases u with
  | true =>
    have b : q - n = d (m + n) - n := b
    have hqn : n ≤ q := by
      cases v with
      | true => cases c
      | false =>
        rw [step_false] at g
        split at g
        · injection g with g
          have g : o r + n = q := congrArg Prod.snd g
          omega
        · cases g
    have e : q = d (m + n) := by omega
    subst e
    refine ⟨p, j + 1, (false, m), hp, trace_add ?_ (j + 1) _ a, rfl⟩
    rw [step_true, hd.back (m + n) (by omega), if_neg (by omega), Nat.add_sub_cancel]
  | false =>
    have b : q = d (m + n) - n := b
    cases v with
    | false => cases c
    | true =>
      rw [step_true] at g
      split at g
      · cases g
      · injection g with g
        have g : d r - n = q := congrArg Prod.snd g
        have e : d r = d (m + n) := by omega
        have e := congrArg d e
        rw [hd.back r hr, hd.back (m + n) (by omega)] at e
        subst e
        cases j with
        | zero =>
          injection a0 with a0
          have x : p = m + n := congrArg Prod.snd a0
          have y : decide (p < n) = true := congrArg Prod.fst a0
          have := of_decide_eq_true y
          omega
        | succ j => exact ⟨p, j, (true, m + n), hp, a0, show m + n - n = m by omega⟩
theorem middle {n : Nat} {d o : Nat → Nat} (hd : Inv n d) (ho : Inv n o) {m : Nat} (hm : m < n) (h : ¬ M n d o m) :
    (o m < n ∧ ¬ M n d o (o m)) ∧ n ≤ d (m + n) ∧ d (m + n) - n < n ∧ ¬ M n d o (d (m + n) - n) := by
  have a : o m < n := Nat.lt_of_not_le fun c => h (M_o_out ho hm c)
  have b : n ≤ d (m + n) := Nat.le_of_not_lt fun c => h (M_d_out hd hm c)
  have c := hd.lt (m + n) (by omega)
  exact ⟨⟨a, fun x => h (M_o hd ho hm a x)⟩, b, by omega, fun x => h (M_d hd hm b x)⟩
def ident (n p : Nat) : Nat := if p < n then p + n else p - n
theorem ident_inv (n : Nat) : Inv n (ident n) where
  lt p hp := by unfold ident; split <;> omega
  ne p hp := by unfold ident; split <;> omega
  back p hp := by unfold ident; repeat' split
                  all_goals omega
def hook (n i p : Nat) : Nat := if p = i then i + 1 else if p = i + 1 then i else if p = n + i then n + i + 1 else if p = n + i + 1 then n + i else ident n p
theorem hook_inv {n i : Nat} (h : i + 2 ≤ n) : Inv n (hook n i) where
  lt p hp := by unfold hook ident; repeat' split
                all_goals omega
  ne p hp := by unfold hook ident; repeat' split
                all_goals omega
  back p hp := by
    unfold hook ident
    by_cases a : p = i
    · rw [if_pos a]
      repeat' split
      all_goals omega
    · rw [if_neg a]
      by_cases b : p = i + 1
      · rw [if_pos b]
        repeat' split
        all_goals omega
      · rw [if_neg b]
        by_cases c : p = n + i
        · rw [if_pos c]
          repeat' split
          all_goals omega
        · rw [if_neg c]
          by_cases e : p = n + i + 1
          · rw [if_pos e]
            repeat' split
            all_goals omega
          · rw [if_neg e]
            by_cases f : p < n
            · rw [if_pos f]
              repeat' split
              all_goals omega
            · rw [if_neg f]
              repeat' split
              all_goals omega
def marks (n : Nat) (d o : Nat → Nat) : Nat → Bool × Nat → List Nat
  | 0, _ => []
  | k + 1, s => match step n d o s with
    | .inl _ => []
    | .inr s' => mid n s' :: marks n d o k s'
theorem marks_trace {n : Nat} {d o : Nat → Nat} {q : Nat} {t : Bool × Nat} : ∀ (k : Nat) (s : Bool × Nat) (j : Nat), way n d o k s = some q → trace n d o (j + 1) s = some t → mid n t ∈ marks n d o k s
  | 0, s, j, h, _ => by cases h
  | k + 1, s, j, h, g => by
    unfold way at h
    unfold trace at g
    unfold marks
    cases e : step n d o s with
    | inl a => rw [e] at g; cases g
    | inr s' =>
      rw [e] at h g
      cases j with
      | zero =>
        injection g with g
        subst g
        exact List.mem_cons_self ..
      | succ j => exact List.mem_cons_of_mem _ (marks_trace k s' j h g)
def put (S : List Bool) (l : List Nat) : List Bool := l.foldl (fun S m => S.set m true) S
theorem put_length : ∀ (l : List Nat) (S : List Bool), (put S l).length = S.length
  | [], _ => rfl
  | m :: l, S => (put_length l (S.set m true)).trans (List.length_set ..)
theorem put_keep {x : Nat} : ∀ (l : List Nat) (S : List Bool), S[x]? = some true → (put S l)[x]? = some true
  | [], _, h => h
  | m :: l, S, h => by
    refine put_keep l (S.set m true) ?_
    rw [List.getElem?_set]
    have := (List.getElem?_eq_some_iff.1 h).1
    split
    · rename_i e
      subst e
      rw [if_pos this]
    · exact h
theorem put_mem {x : Nat} : ∀ (l : List Nat) (S : List Bool), x ∈ l → x < S.length → (put S l)[x]? = some true
  | [], _, h, _ => by cases h
  | m :: l, S, h, hx => by
    rcases List.mem_cons.1 h with e | e
    · subst e
      refine put_keep l (S.set x true) ?_
      rw [List.getElem?_set, if_pos rfl, if_pos hx]
    · exact put_mem l (S.set m true) e (by rw [List.length_set]; exact hx)
theorem unseen {n : Nat} {d o : Nat → Nat} (hd : Inv n d) (ho : Inv n o) {S : List Bool} (hS : ∀ p, p < 2 * n → ∀ m ∈ marks n d o (4 * n) (start n p), m < n → S[m]? = some true) {m : Nat} (hm : m < n) (h : S[m]? = some false) : ¬ M n d o m := fun ⟨p, j, t, hp, a, b⟩ => by
  obtain ⟨q, hq⟩ := way_ends hd ho (start_out hp)
  have c := hS p hp m (b ▸ marks_trace (4 * n) _ j hq a) hm
  rw [c] at h
  cases h
end TopHooks
namespace TopFar
def R (own last : Nat → Bool) (nb : Nat → List Nat) : Nat → Nat → Prop
  | 0, _ => False
  | k + 1, i => own i = true ∧ (last i = true ∨ ∃ j ∈ nb i, R own last nb k j)
variable {N : Nat} {own last : Nat → Bool} {nb : Nat → List Nat}
theorem R_succ : ∀ {k i : Nat}, R own last nb k i → R own last nb (k + 1) i
  | 0, _, h => h.elim
  | k + 1, i, h => by
    refine ⟨h.1, h.2.imp id fun ⟨j, hj, g⟩ => ⟨j, hj, R_succ g⟩⟩
theorem R_le {k i : Nat} (h : R own last nb k i) : ∀ m, R own last nb (k + m) i
  | 0 => h
  | m + 1 => R_succ (R_le h m)
theorem R_mono {k m i : Nat} (h : R own last nb k i) (hm : k ≤ m) : R own last nb m i := by
  have := R_le h (m - k)
  rw [show k + (m - k) = m by omega] at this
  exact this
def X (own last : Nat → Bool) (nb : Nat → List Nat) (k i : Nat) : Prop := R own last nb (k + 1) i ∧ ¬ R own last nb k i
theorem X_down {k i : Nat} (h : X own last nb (k + 1) i) : ∃ j ∈ nb i, X own last nb k j := by
  obtain ⟨⟨o, a⟩, b⟩ := h
  rcases a with a | ⟨j, hj, g⟩
  · exact (b ⟨o, .inl a⟩).elim
  · exact ⟨j, hj, g, fun c => b ⟨o, .inr ⟨j, hj, c⟩⟩⟩
theorem X_uniq {k m i : Nat} (h : X own last nb k i) (g : X own last nb m i) : k = m := by
  rcases Nat.lt_trichotomy k m with c | c | c
  · exact (g.2 (R_mono h.1 c)).elim
  · exact c
  · exact (h.2 (R_mono g.1 c)).elim
theorem chain (hnb : ∀ i, i < N → ∀ j ∈ nb i, j < N) : ∀ (k i : Nat), i < N → X own last nb k i →
    ∃ l : List Nat, l.length = k + 1 ∧ l.Nodup ∧ (∀ x ∈ l, x < N) ∧ ∀ x ∈ l, ∃ m, m ≤ k ∧ X own last nb m x
  | 0, i, hi, h => ⟨[i], rfl, by simp, by simpa using hi, fun x hx => ⟨0, Nat.le_refl _, by rw [List.mem_singleton.1 hx]; exact h⟩⟩
  | k + 1, i, hi, h => by
    obtain ⟨j, hj, g⟩ := X_down h
    obtain ⟨l, a, b, c, d⟩ := chain hnb k j (hnb i hi j hj) g
    refine ⟨i :: l, by simp [a], List.nodup_cons.2 ⟨fun hm => ?_, b⟩, fun x hx => ?_, fun x hx => ?_⟩
    · obtain ⟨m, hm, e⟩ := d i hm
      have := X_uniq h e
      omega
    · rcases List.mem_cons.1 hx with e | e
      · exact e ▸ hi
      · exact c x e
    · rcases List.mem_cons.1 hx with e | e
      · exact ⟨k + 1, Nat.le_refl _, e ▸ h⟩
      · obtain ⟨m, hm, f⟩ := d x e
        exact ⟨m, by omega, f⟩
theorem pigeon : ∀ (N : Nat) (l : List Nat), l.Nodup → (∀ x ∈ l, x < N) → l.length ≤ N
  | 0, l, _, h => by
    cases l with
    | nil => exact Nat.le_refl _
    | cons a l => exact absurd (h a (List.mem_cons_self ..)) (by omega)
  | N + 1, l, hd, h => by
    by_cases c : N ∈ l
    · have := pigeon N (l.erase N) (hd.erase N) fun x hx => by
        have a := h x (List.mem_of_mem_erase hx)
        have b : x ≠ N := fun e => by
          subst e
          exact (List.Nodup.not_mem_erase hd) hx
        omega
      rw [List.length_erase_of_mem c] at this
      omega
    · have := pigeon N l hd fun x hx => by
        have a := h x hx
        have b : x ≠ N := fun e => c (e ▸ hx)
        omega
      omega
theorem R_N (hnb : ∀ i, i < N → ∀ j ∈ nb i, j < N) : ∀ (k i : Nat), i < N → R own last nb k i → R own last nb N i
  | 0, i, _, h => h.elim
  | k + 1, i, hi, h => by
    by_cases c : R own last nb k i
    · exact R_N hnb k i hi c
    · obtain ⟨l, a, b, d, _⟩ := chain hnb k i hi ⟨h, c⟩
      have := pigeon N l b d
      exact R_mono h (by omega)
def low (f : Nat → Int) (best : Int) (j : Nat) : Int := if 0 ≤ f j ∧ (best < 0 ∨ f j + 1 < best) then f j + 1 else best
def best (own last : Nat → Bool) (nb : Nat → List Nat) (f : Nat → Int) (i : Nat) : Int :=
  if own i = true then (nb i).foldl (low f) (if last i = true then 1 else -1) else f i
def upd (own last : Nat → Bool) (nb : Nat → List Nat) (f : Nat → Int) (i : Nat) : Nat → Int := fun x => if x = i then best own last nb f i else f x
def Sound (own last : Nat → Bool) (nb : Nat → List Nat) (f : Nat → Int) : Prop := ∀ i, f i = -1 ∨ ∃ k : Nat, f i = k ∧ R own last nb k i
def Knows (own last : Nat → Bool) (nb : Nat → List Nat) (f : Nat → Int) (k i : Nat) : Prop := ∀ m, m ≤ k → R own last nb m i → 0 ≤ f i ∧ f i ≤ m
theorem low_sound {f : Nat → Int} {i : Nat} (hf : Sound own last nb f) (ho : own i = true) : ∀ (l : List Nat) (b : Int), (∀ j ∈ l, j ∈ nb i) → (b = -1 ∨ ∃ k : Nat, b = k ∧ R own last nb k i) →
    (l.foldl (low f) b = -1 ∨ ∃ k : Nat, l.foldl (low f) b = k ∧ R own last nb k i)
  | [], _, _, h => h
  | j :: l, b, hl, h => by
    refine low_sound hf ho l (low f b j) (fun x hx => hl x (List.mem_cons_of_mem _ hx)) ?_
    unfold low
    split
    · rename_i c
      rcases hf j with e | ⟨k, e, g⟩
      · omega
      · exact .inr ⟨k + 1, by omega, ho, .inr ⟨j, hl j (List.mem_cons_self ..), g⟩⟩
    · exact h
theorem upd_sound {f : Nat → Int} (hf : Sound own last nb f) (i : Nat) : Sound own last nb (upd own last nb f i) := fun x => by
  unfold upd
  split
  · rename_i c
    subst c
    unfold best
    split
    · rename_i ho
      refine low_sound hf ho (nb x) _ (fun j h => h) ?_
      split
      · rename_i hl
        exact .inr ⟨1, rfl, ho, .inl hl⟩
      · exact .inl rfl
    · exact hf x
  · exact hf x
theorem low_keep {f : Nat → Int} {m : Int} : ∀ (l : List Nat) (b : Int), 0 ≤ b → b ≤ m → 0 ≤ l.foldl (low f) b ∧ l.foldl (low f) b ≤ m
  | [], _, h, g => ⟨h, g⟩
  | j :: l, b, h, g => by
    have : 0 ≤ low f b j ∧ low f b j ≤ m := by
      unfold low
      split <;> omega
    exact low_keep l _ this.1 this.2
theorem low_get {f : Nat → Int} {m : Int} {j : Nat} (h0 : 0 ≤ f j) (hm : f j + 1 ≤ m) : ∀ (l : List Nat) (b : Int), j ∈ l → 0 ≤ l.foldl (low f) b ∧ l.foldl (low f) b ≤ m
  | [], _, h => by cases h
  | y :: l, b, h => by
    rcases List.mem_cons.1 h with e | e
    · subst e
      have : 0 ≤ low f b j ∧ low f b j ≤ m := by
        unfold low
        split <;> omega
      exact low_keep l _ this.1 this.2
    · exact low_get h0 hm l _ e
theorem upd_knows {f : Nat → Int} {k i : Nat} (hf : ∀ j ∈ nb i, Knows own last nb f k j) : Knows own last nb (upd own last nb f i) (k + 1) i := fun m hm h => by
  cases m with
  | zero => exact h.elim
  | succ m =>
    obtain ⟨ho, h⟩ := h
    unfold upd best
    rw [if_pos rfl, if_pos ho]
    rcases h with h | ⟨j, hj, g⟩
    · rw [if_pos h]
      exact low_keep _ _ (by omega) (by omega)
    · have := hf j hj m (by omega) g
      exact low_get this.1 (by omega) _ _ hj
theorem knows_le {f : Nat → Int} {k m i : Nat} (h : Knows own last nb f k i) (hm : m ≤ k) : Knows own last nb f m i := fun a b c => h a (Nat.le_trans b hm) c
theorem upd_other {f : Nat → Int} {k i x : Nat} (h : Knows own last nb f k x) (c : x ≠ i) : Knows own last nb (upd own last nb f i) k x := fun m hm g => by
  unfold upd
  rw [if_neg c]
  exact h m hm g
def sweep (own last : Nat → Bool) (nb : Nat → List Nat) (f : Nat → Int) : Nat → Nat → Int
  | 0 => f
  | i + 1 => upd own last nb (sweep own last nb f i) i
theorem sweep_sound {f : Nat → Int} (hf : Sound own last nb f) : ∀ i, Sound own last nb (sweep own last nb f i)
  | 0 => hf
  | i + 1 => upd_sound (sweep_sound hf i) i
theorem sweep_knows {f : Nat → Int} {k : Nat} (hnb : ∀ i, i < N → ∀ j ∈ nb i, j < N) (hf : ∀ x, x < N → Knows own last nb f k x) : ∀ i, i ≤ N →
    ∀ x, x < N → Knows own last nb (sweep own last nb f i) (if x < i then k + 1 else k) x
  | 0, _, x, hx => by rw [if_neg (by omega)]; exact hf x hx
  | i + 1, hi, x, hx => by
    have ih := sweep_knows hnb hf i (by omega)
    by_cases c : x = i
    · subst c
      rw [if_pos (by omega)]
      refine upd_knows fun j hj => knows_le (ih j (hnb x hx j hj)) ?_
      split <;> omega
    · refine upd_other (knows_le (ih x hx) ?_) c
      split <;> split <;> omega
def rounds (own last : Nat → Bool) (nb : Nat → List Nat) (N : Nat) : Nat → Nat → Int
  | 0 => fun _ => -1
  | k + 1 => sweep own last nb (rounds own last nb N k) N
theorem rounds_sound : ∀ k, Sound own last nb (rounds own last nb N k)
  | 0 => fun _ => .inl rfl
  | k + 1 => sweep_sound (rounds_sound k) N
theorem rounds_knows (hnb : ∀ i, i < N → ∀ j ∈ nb i, j < N) : ∀ k x, x < N → Knows own last nb (rounds own last nb N k) k x
  | 0, x, _ => fun m hm h => by
    cases m with
    | zero => exact h.elim
    | succ m => omega
  | k + 1, x, hx => by
    have := sweep_knows hnb (rounds_knows hnb k) N (Nat.le_refl _) x hx
    rw [if_pos hx] at this
    exact this
theorem rounds_end (hnb : ∀ i, i < N → ∀ j ∈ nb i, j < N) {i : Nat} (hi : i < N) (h0 : 0 ≤ rounds own last nb N N i) : 1 ≤ rounds own last nb N N i ∧ rounds own last nb N N i ≤ N ∧
    (1 < rounds own last nb N N i → ∃ j ∈ nb i, rounds own last nb N N j = rounds own last nb N N i - 1) := by
  rcases rounds_sound (N := N) (own := own) (last := last) (nb := nb) N i with e | ⟨k, e, g⟩
  · omega
  · have gN := R_N hnb k i hi g
    have hN := (rounds_knows hnb N i hi N (Nat.le_refl _) gN).2
    cases k with
    | zero => exact g.elim
    | succ k =>
      refine ⟨by omega, hN, fun h1 => ?_⟩
      obtain ⟨ho, g⟩ := g
      rcases g with g | ⟨j, hj, g⟩
      · have := (rounds_knows hnb N i hi 1 (by omega) ⟨ho, .inl g⟩).2
        omega
      · have hjN := hnb i hi j hj
        have a := rounds_knows hnb N j hjN k (by omega) g
        refine ⟨j, hj, ?_⟩
        rcases rounds_sound (N := N) (own := own) (last := last) (nb := nb) N j with e2 | ⟨m, e2, g2⟩
        · omega
        · have b := (rounds_knows hnb N i hi (m + 1) (by omega) ⟨ho, .inr ⟨j, hj, g2⟩⟩).2
          omega
def Bd (B : Int) (f : Nat → Int) : Prop := ∀ x, -1 ≤ f x ∧ f x ≤ B
theorem fold_bd {f : Nat → Int} {B : Int} (hf : Bd B f) : ∀ (l : List Nat) (b : Int), -1 ≤ b → b ≤ B + 1 → -1 ≤ l.foldl (low f) b ∧ l.foldl (low f) b ≤ B + 1
  | [], _, h, g => ⟨h, g⟩
  | j :: l, b, h, g => by
    have h1 := hf j
    have : -1 ≤ low f b j ∧ low f b j ≤ B + 1 := by
      unfold low
      split <;> omega
    exact fold_bd hf l _ this.1 this.2
theorem upd_bd {f : Nat → Int} {B : Int} (h0 : 0 ≤ B) (hf : Bd B f) (i : Nat) : Bd (B + 1) (upd own last nb f i) := fun x => by
  have h1 := hf x
  unfold upd
  split
  · unfold best
    split
    · refine fold_bd hf (nb i) _ ?_ ?_
      · split <;> omega
      · split <;> omega
    · have := hf i
      omega
  · omega
theorem Bd.mono {f : Nat → Int} {B C : Int} (h : Bd B f) (hc : B ≤ C) : Bd C f := fun x => by have := h x; omega
theorem sweep_bd {f : Nat → Int} {B : Int} (h0 : 0 ≤ B) (hf : Bd B f) : ∀ i : Nat, Bd (B + i) (sweep own last nb f i)
  | 0 => by simpa [sweep] using hf
  | i + 1 => by
    have := upd_bd (own := own) (last := last) (nb := nb) (by omega) (sweep_bd h0 hf i) i
    rw [sweep]
    exact this.mono (by omega)
theorem rounds_bd (hN : N ≤ 200) : ∀ k : Nat, Bd (200 * k) (rounds own last nb N k)
  | 0 => fun x => by simp [rounds]
  | k + 1 => by
    have := sweep_bd (own := own) (last := last) (nb := nb) (by omega) (rounds_bd hN k) N
    rw [rounds]
    exact this.mono (by omega)
def valsL (f : Nat → Int) (N : Nat) : List Int := (List.range N).map f
theorem valsL_length (f : Nat → Int) (N : Nat) : (valsL f N).length = N := by simp [valsL]
theorem valsL_get {f : Nat → Int} {N j : Nat} (h : j < (valsL f N).length) : (valsL f N)[j] = f j := by
  simp [valsL]
theorem valsL_upd {f : Nat → Int} {N i : Nat} (_hi : i < N) : (valsL f N).set i (best own last nb f i) = valsL (upd own last nb f i) N := by
  unfold valsL
  apply List.ext_getElem (by simp)
  intro p h1 h2
  rw [List.getElem_set]
  simp only [List.getElem_map, List.getElem_range]
  unfold upd
  by_cases c : i = p
  · rw [if_pos c, if_pos c.symm]
  · rw [if_neg c, if_neg (fun h => c h.symm)]
theorem upd_same {f : Nat → Int} {i : Nat} (h : own i = false) : upd own last nb f i = f := by
  funext x
  unfold upd best
  split
  · rename_i c
    rw [if_neg (by rw [h]; simp), c]
  · rfl
theorem valsL_start (N : Nat) : valsL (fun _ => -1) N = List.replicate N (-1) := by
  unfold valsL
  apply List.ext_getElem (by simp)
  intro p h1 h2
  simp
end TopFar
