/- The words that make a word: the plain law, no program in sight. -/
import Derived.Test.YtcjbnonjhahakaaDoorMathP
namespace Go.Proofs.YtcjbnonjhahakaaDoor.Math
def nine : List UInt8 := [49, 50, 51, 52, 53, 54, 55, 56, 57]
def five : List UInt8 := [51, 52, 53, 54, 55]
/-- The words that an operation takes to a word. -/
def befores (c : UInt8) (w : Word) : List Word :=
  if c = 51 then (if w.length > 2 ∧ w.length % 2 = 1 ∧ w[w.length / 2]? = some 50 ∧ w.take (w.length / 2) = w.drop (w.length / 2 + 1) then [w.take (w.length / 2)] else [])
  else if c = 52 then [w.reverse]
  else if c = 53 then (if w.length % 2 = 0 ∧ w.take (w.length / 2) = w.drop (w.length / 2) then [w.take (w.length / 2)] else [])
  else if c = 54 then nine.map (· :: w)
  else (if w.length > 1 ∧ w.head? = some 49 then [w.tail] else [])
/-- The words of at most so many digits that make a word. -/
def mkL : Nat → Word → List Word
  | 0, _ => []
  | m + 1, w => (if w.length + 1 ≤ m + 1 then [50 :: w] else []) ++ five.flatMap fun c => (befores c w).flatMap fun b => (mkL m b).map (c :: ·)
theorem mem_nine {d : UInt8} : d ∈ nine ↔ isDig d = true := by
  have hh : ∀ n : Fin 256, (UInt8.ofNat n ∈ nine) ↔ isDig (UInt8.ofNat n) = true := by decide +kernel
  have := hh ⟨d.toNat, d.toNat_lt⟩
  simpa using this
theorem mem_five {d : UInt8} : d ∈ five ↔ isOp d = true := by
  have hh : ∀ n : Fin 256, (UInt8.ofNat n ∈ five) ↔ isOp (UInt8.ofNat n) = true := by decide +kernel
  have := hh ⟨d.toNat, d.toNat_lt⟩
  simpa using this
theorem five_cases {c : UInt8} (h : c ∈ five) : c = 51 ∨ c = 52 ∨ c = 53 ∨ c = 54 ∨ c = 55 := by simpa [five] using h
theorem befores_len {c : UInt8} {w b : Word} (hc : c ∈ five) (hw : w ≠ []) (hb : b ∈ befores c w) : b ≠ [] ∧ w.length / 2 ≤ b.length ∧ b.length ≤ w.length + 1 := by
  have hl : 0 < w.length := List.length_pos_iff.2 hw
  rcases five_cases hc with rfl | rfl | rfl | rfl | rfl
  · unfold befores at hb
    rw [if_pos rfl] at hb
    split at hb
    · rename_i h
      simp at hb; subst hb
      refine ⟨?_, ?_, ?_⟩
      · rw [← List.length_pos_iff, List.length_take]; omega
      · rw [List.length_take]; omega
      · rw [List.length_take]; omega
    · cases hb
  · unfold befores at hb
    simp at hb; subst hb
    refine ⟨by simpa using hw, ?_, ?_⟩
    · rw [List.length_reverse]; omega
    · rw [List.length_reverse]; omega
  · unfold befores at hb
    rw [if_neg (by decide), if_neg (by decide), if_pos rfl] at hb
    split at hb
    · rename_i h
      simp at hb; subst hb
      refine ⟨?_, ?_, ?_⟩
      · rw [← List.length_pos_iff, List.length_take]; omega
      · rw [List.length_take]; omega
      · rw [List.length_take]; omega
    · cases hb
  · unfold befores at hb
    rw [if_neg (by decide), if_neg (by decide), if_neg (by decide), if_pos rfl] at hb
    obtain ⟨d, _, rfl⟩ := List.mem_map.1 hb
    refine ⟨by simp, ?_, ?_⟩
    · rw [List.length_cons]; omega
    · rw [List.length_cons]; omega
  · unfold befores at hb
    rw [if_neg (by decide), if_neg (by decide), if_neg (by decide), if_neg (by decide)] at hb
    split at hb
    · rename_i h
      simp at hb; subst hb
      refine ⟨?_, ?_, ?_⟩
      · rw [← List.length_pos_iff, List.length_tail]; omega
      · rw [List.length_tail]; omega
      · rw [List.length_tail]; omega
    · cases hb
theorem all_take {w : Word} (h : w.all isDig = true) (n : Nat) : (w.take n).all isDig = true := by
  rw [List.all_eq_true] at h ⊢
  exact fun x hx => h x (List.mem_of_mem_take hx)
theorem befores_dig {c : UInt8} {w b : Word} (hc : c ∈ five) (hd : w.all isDig = true) (hb : b ∈ befores c w) : b.all isDig = true := by
  rcases five_cases hc with rfl | rfl | rfl | rfl | rfl
  · unfold befores at hb
    rw [if_pos rfl] at hb
    split at hb
    · simp at hb; subst hb; exact all_take hd _
    · cases hb
  · unfold befores at hb
    simp at hb; subst hb
    rw [List.all_reverse]; exact hd
  · unfold befores at hb
    rw [if_neg (by decide), if_neg (by decide), if_pos rfl] at hb
    split at hb
    · simp at hb; subst hb; exact all_take hd _
    · cases hb
  · unfold befores at hb
    rw [if_neg (by decide), if_neg (by decide), if_neg (by decide), if_pos rfl] at hb
    obtain ⟨d, hd1, rfl⟩ := List.mem_map.1 hb
    rw [List.all_cons, mem_nine.1 hd1, hd]; rfl
  · unfold befores at hb
    rw [if_neg (by decide), if_neg (by decide), if_neg (by decide), if_neg (by decide)] at hb
    split at hb
    · simp at hb; subst hb
      rw [List.all_eq_true] at hd ⊢
      exact fun x hx => hd x (List.mem_of_mem_tail hx)
    · cases hb
theorem befores_sound {c : UInt8} {w b : Word} (hc : c ∈ five) (hb : b ∈ befores c w) : app1 c b = w := by
  rcases five_cases hc with rfl | rfl | rfl | rfl | rfl
  · unfold befores at hb
    rw [if_pos rfl] at hb
    split at hb
    · rename_i h
      obtain ⟨h1, h2, h3, h4⟩ := h
      simp at hb; subst hb
      unfold app1
      rw [if_pos rfl]
      have hi : w.length / 2 < w.length := by omega
      rw [List.getElem?_eq_getElem hi] at h3
      have h3 := Option.some.inj h3
      conv => rhs; rw [← List.take_append_drop (w.length / 2) w, List.drop_eq_getElem_cons hi, h3, ← h4]
    · cases hb
  · unfold befores at hb
    simp at hb; subst hb
    unfold app1
    rw [if_neg (by decide), if_pos rfl, List.reverse_reverse]
  · unfold befores at hb
    rw [if_neg (by decide), if_neg (by decide), if_pos rfl] at hb
    split at hb
    · rename_i h
      simp at hb; subst hb
      unfold app1
      rw [if_neg (by decide), if_neg (by decide), if_pos rfl]
      conv => rhs; rw [← List.take_append_drop (w.length / 2) w, ← h.2]
    · cases hb
  · unfold befores at hb
    rw [if_neg (by decide), if_neg (by decide), if_neg (by decide), if_pos rfl] at hb
    obtain ⟨d, hd1, rfl⟩ := List.mem_map.1 hb
    unfold app1
    rw [if_neg (by decide), if_neg (by decide), if_neg (by decide), if_pos rfl]
    rfl
  · unfold befores at hb
    rw [if_neg (by decide), if_neg (by decide), if_neg (by decide), if_neg (by decide)] at hb
    split at hb
    · rename_i h
      simp at hb; subst hb
      unfold app1
      rw [if_neg (by decide), if_neg (by decide), if_neg (by decide), if_neg (by decide)]
      cases w with
      | nil => simp at h
      | cons x t =>
        have h2 := h.2
        simp at h2
        subst h2; rfl
    · cases hb
theorem app_51 (b : Word) : app1 51 b = b ++ 50 :: b := by unfold app1; rw [if_pos rfl]
theorem app_52 (b : Word) : app1 52 b = b.reverse := by unfold app1; rw [if_neg (by decide), if_pos rfl]
theorem app_53 (b : Word) : app1 53 b = b ++ b := by unfold app1; rw [if_neg (by decide), if_neg (by decide), if_pos rfl]
theorem app_54 (b : Word) : app1 54 b = b.tail := by unfold app1; rw [if_neg (by decide), if_neg (by decide), if_neg (by decide), if_pos rfl]
theorem app_55 (b : Word) : app1 55 b = 49 :: b := by unfold app1; rw [if_neg (by decide), if_neg (by decide), if_neg (by decide), if_neg (by decide)]
theorem bef_51 (w : Word) : befores 51 w = if w.length > 2 ∧ w.length % 2 = 1 ∧ w[w.length / 2]? = some 50 ∧ w.take (w.length / 2) = w.drop (w.length / 2 + 1) then [w.take (w.length / 2)] else [] := by unfold befores; rw [if_pos rfl]
theorem bef_52 (w : Word) : befores 52 w = [w.reverse] := by unfold befores; rw [if_neg (by decide), if_pos rfl]
theorem bef_53 (w : Word) : befores 53 w = if w.length % 2 = 0 ∧ w.take (w.length / 2) = w.drop (w.length / 2) then [w.take (w.length / 2)] else [] := by unfold befores; rw [if_neg (by decide), if_neg (by decide), if_pos rfl]
theorem bef_54 (w : Word) : befores 54 w = nine.map (· :: w) := by unfold befores; rw [if_neg (by decide), if_neg (by decide), if_neg (by decide), if_pos rfl]
theorem bef_55 (w : Word) : befores 55 w = if w.length > 1 ∧ w.head? = some 49 then [w.tail] else [] := by unfold befores; rw [if_neg (by decide), if_neg (by decide), if_neg (by decide), if_neg (by decide)]
theorem befores_complete {c : UInt8} {w b : Word} (hc : c ∈ five) (hd : b.all isDig = true) (hb : b ≠ []) (hl : long1 c b.length ≠ 0) (he : app1 c b = w) : b ∈ befores c w := by
  have hbl : 0 < b.length := List.length_pos_iff.2 hb
  subst he
  rcases five_cases hc with rfl | rfl | rfl | rfl | rfl
  · rw [app_51, bef_51]
    have e1 : (b ++ 50 :: b).length = 2 * b.length + 1 := by simp; omega
    have e2 : (2 * b.length + 1) / 2 = b.length := by omega
    rw [e1, e2]
    have e3 : (b ++ 50 :: b).take b.length = b := by simp
    have e4 : (b ++ 50 :: b).drop (b.length + 1) = b := by simp [List.drop_append]
    have e5 : (b ++ 50 :: b)[b.length]? = some 50 := by simp
    rw [e3, e4, e5, if_pos ⟨by omega, by omega, rfl, rfl⟩]
    simp
  · rw [app_52, bef_52]
    simp
  · rw [app_53, bef_53]
    have e1 : (b ++ b).length = 2 * b.length := by simp; omega
    have e2 : (2 * b.length) / 2 = b.length := by omega
    rw [e1, e2]
    have e3 : (b ++ b).take b.length = b := by simp
    have e4 : (b ++ b).drop b.length = b := by simp
    rw [e3, e4, if_pos ⟨by omega, rfl⟩]
    simp
  · rw [app_54, bef_54]
    cases b with
    | nil => exact absurd rfl hb
    | cons x t =>
      rw [List.all_cons, Bool.and_eq_true] at hd
      exact List.mem_map.2 ⟨x, mem_nine.2 hd.1, rfl⟩
  · rw [app_55, bef_55]
    rw [if_pos ⟨by simp; omega, rfl⟩]
    simp
theorem befores_nodup {c : UInt8} {w : Word} (hc : c ∈ five) : (befores c w).Nodup := by
  rcases five_cases hc with rfl | rfl | rfl | rfl | rfl
  · unfold befores
    rw [if_pos rfl]
    split <;> simp
  · unfold befores
    simp
  · unfold befores
    rw [if_neg (by decide), if_neg (by decide), if_pos rfl]
    split <;> simp
  · unfold befores
    rw [if_neg (by decide), if_neg (by decide), if_neg (by decide), if_pos rfl]
    simp [nine]
  · unfold befores
    rw [if_neg (by decide), if_neg (by decide), if_neg (by decide), if_neg (by decide)]
    split <;> simp
theorem mem_mkL {m : Nat} {w x : Word} : x ∈ mkL (m + 1) w ↔ (w.length + 1 ≤ m + 1 ∧ x = 50 :: w) ∨ ∃ c ∈ five, ∃ b ∈ befores c w, ∃ y ∈ mkL m b, x = c :: y := by
  rw [mkL, List.mem_append, List.mem_flatMap]
  constructor
  · rintro (h | ⟨c, hc, h⟩)
    · split at h
      · rename_i h1
        simp at h
        exact .inl ⟨h1, h⟩
      · cases h
    · obtain ⟨b, hb, h⟩ := List.mem_flatMap.1 h
      obtain ⟨y, hy, rfl⟩ := List.mem_map.1 h
      exact .inr ⟨c, hc, b, hb, y, hy, rfl⟩
  · rintro (⟨h1, rfl⟩ | ⟨c, hc, b, hb, y, hy, rfl⟩)
    · rw [if_pos h1]; exact .inl (by simp)
    · exact .inr ⟨c, hc, List.mem_flatMap.2 ⟨b, hb, List.mem_map.2 ⟨y, hy, rfl⟩⟩⟩
/-- Each of them makes the word. -/
theorem mkL_sound : ∀ (m : Nat) (w x : Word), w ≠ [] → w.all isDig = true → w.length + m ≤ 100000 → x ∈ mkL m w →
    x.length ≤ m ∧ x.all isDig = true ∧ ∃ o y, x = o ++ 50 :: y ∧ o.all isOp = true ∧ y ≠ [] ∧ applL o.reverse y = (w, 0)
  | 0, _, _, _, _, _, hx => by cases hx
  | m + 1, w, x, hw, hd, hl, hx => by
    rcases mem_mkL.1 hx with ⟨h1, rfl⟩ | ⟨c, hc, b, hb, y, hy, rfl⟩
    · refine ⟨by simpa using h1, by rw [List.all_cons, hd]; decide, [], w, rfl, rfl, hw, rfl⟩
    · have hbl := befores_len hc hw hb
      obtain ⟨i1, i2, o, z, rfl, ho, hz, ha⟩ := mkL_sound m b y hbl.1 (befores_dig hc hd hb) (by omega) hy
      have hop := mem_five.1 hc
      refine ⟨by simpa using i1, by rw [List.all_cons, i2, isDig_of_isOp hop]; rfl, c :: o, z, rfl, by rw [List.all_cons, ho, hop]; rfl, hz, ?_⟩
      rw [List.reverse_cons, applL_append, ha, if_pos rfl]
      have hap := befores_sound hc hb
      have hlen := app1_length c b
      rw [hap] at hlen
      have hwl : 0 < w.length := List.length_pos_iff.2 hw
      show applL [c] b = (w, 0)
      rw [applL, applL, if_neg (by omega), if_neg (by omega), hap]
theorem mkL_says {m : Nat} {w x : Word} (hw : w ≠ []) (hd : w.all isDig = true) (hl : w.length + m ≤ 100000) (hx : x ∈ mkL m w) : x.length ≤ m ∧ 2 ≤ x.length ∧ x.all isDig = true ∧ says x = (w, 0) := by
  obtain ⟨h1, h2, o, y, rfl, ho, hy, ha⟩ := mkL_sound m w x hw hd hl hx
  refine ⟨h1, ?_, h2, by rw [says_mk ho hy, ha]⟩
  have := List.length_pos_iff.2 hy
  simp; omega
/-- Every short word that makes it is one of them. -/
theorem mkL_complete : ∀ (m : Nat) (o y w : Word), w ≠ [] → o.all isOp = true → y.all isDig = true → y ≠ [] → o.length + 1 + y.length ≤ m → applL o.reverse y = (w, 0) → o ++ 50 :: y ∈ mkL m w
  | 0, _, _, _, _, _, _, _, h, _ => by omega
  | m + 1, [], y, w, hw, ho, hd, hy, hl, ha => by
    obtain ⟨rfl, _⟩ := (Prod.mk.injEq _ _ _ _).mp ha
    exact mem_mkL.2 (.inl ⟨by simp at hl; omega, rfl⟩)
  | m + 1, c :: o, y, w, hw, ho, hd, hy, hl, ha => by
    rw [List.all_cons, Bool.and_eq_true] at ho
    rw [List.reverse_cons, applL_append] at ha
    by_cases h0 : (applL o.reverse y).2 = 0
    · rw [if_pos h0] at ha
      obtain ⟨hbd, hbn⟩ := applL_ok (o := o.reverse) hd hy h0
      obtain ⟨b, hb⟩ : ∃ b, (applL o.reverse y).1 = b := ⟨_, rfl⟩
      rw [hb] at ha hbd hbn
      rw [applL, applL] at ha
      by_cases h1 : long1 c b.length = 0
      · rw [if_pos h1] at ha
        exact absurd ((Prod.mk.injEq _ _ _ _).mp ha).2 (by decide)
      · rw [if_neg h1] at ha
        by_cases h2 : long1 c b.length > 100000
        · rw [if_pos h2] at ha
          exact absurd ((Prod.mk.injEq _ _ _ _).mp ha).2 (by decide)
        · rw [if_neg h2] at ha
          have h3 := ((Prod.mk.injEq _ _ _ _).mp ha).1
          have hc := mem_five.2 ho.1
          refine mem_mkL.2 (.inr ⟨c, hc, b, befores_complete hc hbd hbn h1 h3, o ++ 50 :: y, ?_, rfl⟩)
          refine mkL_complete m o y b hbn ho.2 hd hy (by simp at hl; omega) ?_
          rw [← hb, ← h0]
    · rw [if_neg h0] at ha
      rw [ha] at h0
      exact absurd rfl h0
theorem mkL_all {m : Nat} {w x : Word} (hw : w ≠ []) (hd : x.all isDig = true) (hl : x.length ≤ m) (hs : says x = (w, 0)) : x ∈ mkL m w := by
  cases hp : parts x with
  | none => unfold says at hs; rw [hp] at hs; exact absurd ((Prod.mk.injEq _ _ _ _).mp hs).2 (by decide)
  | some q =>
    obtain ⟨o, y⟩ := q
    obtain ⟨rfl, ho, hy⟩ := parts_some hp
    rw [says_mk ho hy] at hs
    rw [List.all_append, List.all_cons, Bool.and_eq_true, Bool.and_eq_true] at hd
    exact mkL_complete m o y w hw ho hd.2.2 hy (by simp at hl; omega) hs
theorem nodup_flatMap {α β : Type} {f : α → List β} : ∀ {l : List α}, l.Nodup → (∀ a ∈ l, (f a).Nodup) → (∀ a ∈ l, ∀ b ∈ l, a ≠ b → ∀ x ∈ f a, x ∉ f b) → (l.flatMap f).Nodup
  | [], _, _, _ => by simp
  | a :: l, h, h1, h2 => by
    rw [List.nodup_cons] at h
    rw [List.flatMap_cons, List.nodup_append]
    refine ⟨h1 a (by simp), nodup_flatMap h.2 (fun b hb => h1 b (by simp [hb])) (fun b hb c hc => h2 b (by simp [hb]) c (by simp [hc])), ?_⟩
    rintro x hx y hy rfl
    obtain ⟨b, hb, hxb⟩ := List.mem_flatMap.1 hy
    exact h2 a (by simp) b (by simp [hb]) (fun e => h.1 (e ▸ hb)) x hx hxb
theorem mkL_nodup : ∀ (m : Nat) (w : Word), w ≠ [] → w.all isDig = true → w.length + m ≤ 100000 → (mkL m w).Nodup
  | 0, _, _, _, _ => by simp [mkL]
  | m + 1, w, hw, hd, hl => by
    rw [mkL, List.nodup_append]
    refine ⟨by split <;> simp, ?_, ?_⟩
    · refine nodup_flatMap (by decide) (fun c hc => ?_) (fun c hc c' hc' hne x hx hx' => ?_)
      · refine nodup_flatMap (befores_nodup hc) (fun b hb => ?_) (fun b hb b' hb' hne x hx hx' => ?_)
        · have hbl := befores_len hc hw hb
          exact List.Pairwise.map _ (fun x y h e => h (List.cons.inj e).2) (mkL_nodup m b hbl.1 (befores_dig hc hd hb) (by omega))
        · obtain ⟨y, hy, rfl⟩ := List.mem_map.1 hx
          obtain ⟨y', hy', e⟩ := List.mem_map.1 hx'
          obtain rfl := (List.cons.inj e).2
          have hbl := befores_len hc hw hb
          have hbl' := befores_len hc hw hb'
          have s1 := (mkL_says hbl.1 (befores_dig hc hd hb) (by omega) hy).2.2.2
          have s2 := (mkL_says hbl'.1 (befores_dig hc hd hb') (by omega) hy').2.2.2
          rw [s1] at s2
          exact hne ((Prod.mk.injEq _ _ _ _).mp s2).1
      · obtain ⟨b, _, h⟩ := List.mem_flatMap.1 hx
        obtain ⟨y, _, rfl⟩ := List.mem_map.1 h
        obtain ⟨b', _, h'⟩ := List.mem_flatMap.1 hx'
        obtain ⟨y', _, e⟩ := List.mem_map.1 h'
        exact hne (List.cons.inj e).1.symm
    · rintro x hx y hy rfl
      split at hx
      · simp at hx
        subst hx
        obtain ⟨c, hc, h⟩ := List.mem_flatMap.1 hy
        obtain ⟨b, _, h⟩ := List.mem_flatMap.1 h
        obtain ⟨z, _, e⟩ := List.mem_map.1 h
        rw [(List.cons.inj e).1] at hc
        exact absurd hc (by decide)
      · cases hx
/-! What may be left out. -/
theorem mkL_long : ∀ (m : Nat) (w : Word), w ≠ [] → mkL m w ≠ [] → 2 ≤ m ∧ w.length + 1 ≤ 2 ^ (m - 1)
  | 0, _, _, h => absurd rfl h
  | m + 1, w, hw, h => by
    obtain ⟨x, hx⟩ := List.exists_mem_of_ne_nil _ h
    have hl : 0 < w.length := List.length_pos_iff.2 hw
    rcases mem_mkL.1 hx with ⟨h1, rfl⟩ | ⟨c, hc, b, hb, y, hy, rfl⟩
    · refine ⟨by omega, ?_⟩
      have : m < 2 ^ m := Nat.lt_two_pow_self
      show w.length + 1 ≤ 2 ^ m
      omega
    · have hbl := befores_len hc hw hb
      obtain ⟨i1, i2⟩ := mkL_long m b hbl.1 (List.ne_nil_of_mem hy)
      refine ⟨by omega, ?_⟩
      show w.length + 1 ≤ 2 ^ m
      obtain ⟨k, rfl⟩ : ∃ k, m = k + 1 := ⟨m - 1, by omega⟩
      rw [Nat.pow_succ]
      simp at i2
      omega
def hope : Nat → Nat → Bool
  | 0, _ => false
  | d + 1, n => if d + 1 < 3 then false else if max (n / 2) 1 + 2 ≤ d + 1 then true else hope d (n / 2)
theorem hope_of (k : Nat) : ∀ (m n : Nat), k + 1 + max (n / 2 / 2 ^ k) 1 ≤ m → hope (m + 1) n = true := by
  induction k with
  | zero =>
    intro m n h
    rw [hope]
    rw [Nat.pow_zero, Nat.div_one] at h
    rw [if_neg (by omega), if_pos (by omega)]
  | succ k ih =>
    intro m n h
    rw [hope, if_neg (by omega)]
    by_cases h1 : max (n / 2) 1 + 2 ≤ m + 1
    · rw [if_pos h1]
    · rw [if_neg h1]
      obtain ⟨q, rfl⟩ : ∃ q, m = q + 1 := ⟨m - 1, by omega⟩
      refine ih q (n / 2) ?_
      rw [Nat.pow_succ, Nat.mul_comm, ← Nat.div_div_eq_div_mul] at h
      omega
theorem mkL_reach : ∀ (m : Nat) (w : Word), w ≠ [] → mkL m w ≠ [] → ∃ k, k + 1 + max (w.length / 2 ^ k) 1 ≤ m
  | 0, _, _, h => absurd rfl h
  | m + 1, w, hw, h => by
    obtain ⟨x, hx⟩ := List.exists_mem_of_ne_nil _ h
    have hl : 0 < w.length := List.length_pos_iff.2 hw
    rcases mem_mkL.1 hx with ⟨h1, rfl⟩ | ⟨c, hc, b, hb, y, hy, rfl⟩
    · exact ⟨0, by rw [Nat.pow_zero, Nat.div_one]; omega⟩
    · have hbl := befores_len hc hw hb
      obtain ⟨k, hk⟩ := mkL_reach m b hbl.1 (List.ne_nil_of_mem hy)
      refine ⟨k + 1, ?_⟩
      have h2 : w.length / 2 / 2 ^ k ≤ b.length / 2 ^ k := Nat.div_le_div_right hbl.2.1
      have h3 : w.length / 2 ^ (k + 1) = w.length / 2 / 2 ^ k := by rw [Nat.pow_succ, Nat.mul_comm, ← Nat.div_div_eq_div_mul]
      rw [h3]
      omega
/-- Without hope nothing is left out. -/
theorem mkL_hopeless {m : Nat} {w : Word} (hw : w ≠ []) (h : hope (m + 1) w.length = false) {c : UInt8} (hc : c ∈ five) {b : Word} (hb : b ∈ befores c w) : mkL m b = [] := by
  refine Classical.byContradiction fun hne => ?_
  have hbl := befores_len hc hw hb
  obtain ⟨k, hk⟩ := mkL_reach m b hbl.1 hne
  have h2 : w.length / 2 / 2 ^ k ≤ b.length / 2 ^ k := Nat.div_le_div_right hbl.2.1
  rw [hope_of k m w.length (by omega)] at h
  cases h
theorem flatMap_nil {α β : Type} {f : α → List β} {l : List α} (h : ∀ a ∈ l, f a = []) : l.flatMap f = [] := by
  rw [List.flatMap_eq_nil_iff]; exact h
theorem mkL_hopeless_all {m : Nat} {w : Word} (hw : w ≠ []) (h : hope (m + 1) w.length = false) : (five.flatMap fun c => (befores c w).flatMap fun b => (mkL m b).map (c :: ·)) = [] :=
  flatMap_nil fun c hc => flatMap_nil fun b hb => by rw [mkL_hopeless hw h hc hb]; rfl
theorem flatMap_len {α β : Type} (f : α → List β) (n : Nat) : ∀ (l : List α), (∀ a ∈ l, (f a).length ≤ n) → (l.flatMap f).length ≤ l.length * n
  | [], _ => by simp
  | a :: l, h => by
    have h1 := h a (by simp)
    have h2 := flatMap_len f n l (fun b hb => h b (by simp [hb]))
    rw [List.flatMap_cons, List.length_append, List.length_cons, Nat.succ_mul]
    omega
def manyB (c : UInt8) : Nat := if c = 54 then 9 else 1
theorem befores_many {c : UInt8} (hc : c ∈ five) (w : Word) : (befores c w).length ≤ manyB c := by
  rcases five_cases hc with rfl | rfl | rfl | rfl | rfl
  · rw [bef_51]; split <;> simp [manyB]
  · rw [bef_52]; simp [manyB]
  · rw [bef_53]; split <;> simp [manyB]
  · rw [bef_54]; simp [manyB, nine]
  · rw [bef_55]; split <;> simp [manyB]
theorem mkL_many : ∀ (m : Nat) (w : Word), (mkL m w).length ≤ 14 ^ m
  | 0, _ => by simp [mkL]
  | m + 1, w => by
    have h0 : 0 < 14 ^ m := Nat.pow_pos (by decide)
    have hb : ∀ c ∈ five, ((befores c w).flatMap fun b => (mkL m b).map (c :: ·)).length ≤ manyB c * 14 ^ m := fun c hc =>
      Nat.le_trans (flatMap_len _ (14 ^ m) _ (fun b _ => by rw [List.length_map]; exact mkL_many m b)) (Nat.mul_le_mul_right _ (befores_many hc w))
    have h51 := hb 51 (by decide)
    have h52 := hb 52 (by decide)
    have h53 := hb 53 (by decide)
    have h54 := hb 54 (by decide)
    have h55 := hb 55 (by decide)
    rw [show manyB 51 = 1 from rfl] at h51
    rw [show manyB 52 = 1 from rfl] at h52
    rw [show manyB 53 = 1 from rfl] at h53
    rw [show manyB 54 = 9 from rfl] at h54
    rw [show manyB 55 = 1 from rfl] at h55
    rw [mkL, List.length_append, Nat.pow_succ]
    have hf : ∀ f : UInt8 → List Word, (five.flatMap f).length = (f 51).length + ((f 52).length + ((f 53).length + ((f 54).length + (f 55).length))) := fun f => by
      simp [five, List.flatMap_cons]
    rw [hf]
    have h1 : (if w.length + 1 ≤ m + 1 then [50 :: w] else []).length ≤ 1 := by split <;> simp
    omega
/-! The order of the words: shorter ones first, and those of one length in lexicographic order. -/
def shLt (a b : Word) : Bool := decide (a.length < b.length ∨ a.length = b.length ∧ a < b)
def shLe (a b : Word) : Bool := !shLt b a
def sortW (l : List Word) : List Word := l.mergeSort shLe
theorem shLt_irrefl (a : Word) : shLt a a = false := by
  unfold shLt
  refine decide_eq_false ?_
  rintro (h | ⟨_, h⟩)
  · omega
  · exact List.lt_irrefl _ h
theorem shLt_trans {a b c : Word} (h1 : shLt a b = true) (h2 : shLt b c = true) : shLt a c = true := by
  unfold shLt at *
  refine decide_eq_true ?_
  rcases of_decide_eq_true h1 with h1 | ⟨e1, h1⟩ <;> rcases of_decide_eq_true h2 with h2 | ⟨e2, h2⟩
  · exact .inl (by omega)
  · exact .inl (by omega)
  · exact .inl (by omega)
  · exact .inr ⟨by omega, List.lt_trans h1 h2⟩
theorem shLt_ntrans {a b c : Word} (h1 : shLt a b = false) (h2 : shLt b c = false) : shLt a c = false := by
  unfold shLt at *
  refine decide_eq_false ?_
  have h1 := of_decide_eq_false h1
  have h2 := of_decide_eq_false h2
  rintro (h | ⟨e, h⟩)
  · rcases Nat.lt_or_ge a.length b.length with g | g
    · exact h1 (.inl g)
    · exact h2 (.inl (by omega))
  · rcases Nat.lt_trichotomy a.length b.length with g | g | g
    · exact h1 (.inl g)
    · have n1 : b ≤ a := List.not_lt.1 fun q => h1 (.inr ⟨g, q⟩)
      have n2 : c ≤ b := List.not_lt.1 fun q => h2 (.inr ⟨by omega, q⟩)
      exact absurd h (List.not_lt.2 (List.le_trans n2 n1))
    · exact h2 (.inl (by omega))
theorem shLt_conn {a b : Word} (h1 : shLt a b = false) (h2 : shLt b a = false) : a = b := by
  unfold shLt at *
  have h1 := of_decide_eq_false h1
  have h2 := of_decide_eq_false h2
  have e : a.length = b.length := by
    rcases Nat.lt_trichotomy a.length b.length with g | g | g
    · exact absurd (.inl g) h1
    · exact g
    · exact absurd (.inl g) h2
  exact List.le_antisymm (List.not_lt.1 fun q => h2 (.inr ⟨e.symm, q⟩)) (List.not_lt.1 fun q => h1 (.inr ⟨e, q⟩))
theorem shLe_trans (a b c : Word) (h1 : shLe a b = true) (h2 : shLe b c = true) : shLe a c = true := by
  unfold shLe at *
  have h1 : shLt b a = false := by simpa using h1
  have h2 : shLt c b = false := by simpa using h2
  rw [shLt_ntrans h2 h1]; rfl
theorem shLe_total (a b : Word) : (shLe a b || shLe b a) = true := by
  unfold shLe
  cases h : shLt b a with
  | false => rfl
  | true =>
    cases h2 : shLt a b with
    | false => rfl
    | true =>
      have := shLt_trans h h2
      rw [shLt_irrefl] at this; cases this
theorem sortW_perm (l : List Word) : (sortW l).Perm l := List.mergeSort_perm l shLe
theorem sortW_sorted (l : List Word) : (sortW l).Pairwise (fun a b => shLe a b = true) := List.pairwise_mergeSort shLe_trans shLe_total l
theorem sorted_one {a b : List Word} (hp : a.Perm b) (ha : a.Pairwise (fun a b => shLe a b = true)) (hb : b.Pairwise (fun a b => shLe a b = true)) : a = b :=
  hp.eq_of_pairwise (fun x y _ _ h1 h2 => by
    unfold shLe at h1 h2
    exact shLt_conn (by simpa using h2) (by simpa using h1)) ha hb
theorem sortW_of_perm {a b : List Word} (h : a.Perm b) : sortW a = sortW b := sorted_one ((sortW_perm a).trans (h.trans (sortW_perm b).symm)) (sortW_sorted a) (sortW_sorted b)
theorem sortW_strict {l : List Word} (h : l.Nodup) : (sortW l).Pairwise (fun a b => shLt a b = true) := by
  have h1 := sortW_sorted l
  have h2 : (sortW l).Nodup := (sortW_perm l).nodup_iff.2 h
  refine (h1.and h2).imp ?_
  rintro a b ⟨h3, h4⟩
  unfold shLe at h3
  cases h5 : shLt a b with
  | true => rfl
  | false => exact absurd (shLt_conn h5 (by simpa using h3)) h4
/-- What is done already, and one more. -/
theorem flat_upd {α β : Type} [BEq α] [LawfulBEq α] (F : α → List β) (p : α → Bool) (x : α) : ∀ (l : List α), l.Nodup → x ∈ l → p x = true →
    (l.flatMap fun c => if (p c && !(c == x)) = true then [] else F c).Perm ((l.flatMap fun c => if p c = true then [] else F c) ++ F x)
  | [], _, h, _ => by cases h
  | a :: l, hn, hx, hp => by
    rw [List.nodup_cons] at hn
    rw [List.flatMap_cons, List.flatMap_cons]
    by_cases e : a = x
    · subst e
      rw [hp]
      simp only [beq_self_eq_true, Bool.not_true, Bool.and_false, Bool.false_eq_true, if_false, if_true, List.nil_append]
      have e2 : (l.flatMap fun c => if (p c && !(c == a)) = true then [] else F c) = l.flatMap fun c => if p c = true then [] else F c := by
        have : ∀ (q : List α), (∀ c ∈ q, c ≠ a) → (q.flatMap fun c => if (p c && !(c == a)) = true then [] else F c) = q.flatMap fun c => if p c = true then [] else F c := by
          intro q
          induction q with
          | nil => intro _; rfl
          | cons c q ih =>
            intro hq
            have hc : (c == a) = false := beq_eq_false_iff_ne.2 (hq c (by simp))
            rw [List.flatMap_cons, List.flatMap_cons, ih (fun c hc => hq c (by simp [hc])), hc]
            simp
        exact this l (fun c hc e => hn.1 (e ▸ hc))
      rw [e2]
      exact List.perm_append_comm
    · have hxl : x ∈ l := by
        rcases List.mem_cons.1 hx with h | h
        · exact absurd h.symm e
        · exact h
      have he : (a == x) = false := beq_eq_false_iff_ne.2 e
      have ih := flat_upd F p x l hn.2 hxl hp
      rw [he]
      simp only [Bool.not_false, Bool.and_true]
      rw [List.append_assoc]
      exact List.Perm.append_left _ ih
end Go.Proofs.YtcjbnonjhahakaaDoor.Math
