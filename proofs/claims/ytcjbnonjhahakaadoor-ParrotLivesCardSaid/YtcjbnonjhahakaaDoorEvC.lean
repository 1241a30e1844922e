/- What the reference's Life and Grows come to. -/
import Derived.Test.YtcjbnonjhahakaaDoorEvB
import Derived.Test.YtcjbnonjhahakaaDoorPrint8
namespace Go.Proofs.YtcjbnonjhahakaaDoor.Pure
open Go.RowKit Go.Proofs.YtcjbnonjhahakaaDoor.Hand Go.Proofs.YtcjbnonjhahakaaDoor.Print Go.Proofs.YtcjbnonjhahakaaDoor.Math Go.Proofs.YtcjbnonjhahakaaDoorW.PrintWords Go.Proofs.YtcjbnonjhahakaaDoorW.PrintLast Go.Proofs.YtcjbnonjhahakaaDoorW.PrintMore
set_option linter.unusedVariables false
set_option linter.unusedSimpArgs false

/-! Grows -/
theorem mn_nat (a b : Nat) : mn (a : Int) (b : Int) = ((min a b : Nat) : Int) := by
  unfold mn
  by_cases h : b < a
  · rw [if_pos (by omega), Nat.min_eq_right (by omega)]
  · rw [if_neg (by omega), Nat.min_eq_left (by omega)]
theorem mn_61 (a : Nat) : mn (a : Int) 2305843009213693952 = ((min a 2305843009213693952 : Nat) : Int) := mn_nat a 2305843009213693952
theorem ev_RGrows_l (o : ByteArray) (ho : (L o).all isOp = true) (hs : o.size ≤ 1000000) : ∀ (i : Nat), i ≤ o.size → ∀ n : Nat, 1 ≤ n → n ≤ 2305843009213693952 → Ev (fun k => pomaderef08_Grows.l0 k o n ((i : Int) - 1)) (growR ((L o).take i).reverse n) := by
  intro i
  induction i with
  | zero =>
    intro _ n h1 h2
    rw [List.take_zero, List.reverse_nil, growR]
    by_cases c : n > 1152921504606846976
    · rw [if_pos c]
      refine Ev.step (f := fun _ => some (0, 4)) (fun k => ?_) (Ev.now _)
      simp only [pomaderef08_Grows.l0]
      rw [if_neg (by omega), if_pos (by omega)]
    · rw [if_neg c]
      refine Ev.step (f := fun _ => some ((n : Int), 0)) (fun k => ?_) (Ev.now _)
      simp only [pomaderef08_Grows.l0]
      rw [if_neg (by omega), if_neg (by omega)]
  | succ i ih =>
    intro hi n h1 h2
    have hlt : i < o.size := by omega
    have ht := take_step o i hlt
    have hb := bt_nat o i hlt
    have hop : isOp (o[i]'hlt) = true := List.all_eq_true.1 ho _ (List.mem_of_getElem? (byte_at o i hlt))
    obtain ⟨c, hc⟩ : ∃ c, o[i]'hlt = c := ⟨_, rfl⟩
    rw [hc] at hb ht hop
    have hx6 : ((i + 1 : Nat) : Int) - 1 = (i : Int) := by omega
    have c1 : (i : Int) ≥ 0 := by omega
    have c2 : 0 ≤ (i : Int) := by omega
    have c3 : (i : Int) < (o.size : Int) := by omega
    have hdn : wrap64 ((i : Int) - 1) = (i : Int) - 1 := by rw [w64 (by omega)]
    rw [hx6, ht, List.reverse_append, List.reverse_singleton, List.singleton_append, growR]
    have hrest : ∀ m : Nat, m ≠ 0 → Ev (fun k => pomaderef08_Grows.l0 k o ((min m 2305843009213693952 : Nat) : Int) ((i : Int) - 1)) (growR ((L o).take i).reverse (min m 2305843009213693952)) := fun m hm => ih (by omega) _ (by omega) (by omega)
    rcases isOp_cases hop with rfl | rfl | rfl | rfl | rfl
    · have hl : long1 51 n = 2 * n + 1 := rfl
      have e1 : wrap64 (2 * (n : Int)) = 2 * (n : Int) := by rw [w64 (by omega)]
      have e2 : wrap64 (2 * (n : Int) + 1) = ((2 * n + 1 : Nat) : Int) := by rw [w64 (by omega)]; omega
      rw [hl, if_neg (by omega)]
      refine Ev.step (fun k => ?_) (hrest (2 * n + 1) (by omega))
      simp only [pomaderef08_Grows.l0]
      rw [if_pos c1, if_pos c2, if_pos c3, hb, if_pos (by decide), e1, e2, mn_61, hdn]
    · have hl : long1 52 n = n := rfl
      rw [hl, if_neg (by omega)]
      refine Ev.step (fun k => ?_) (hrest n (by omega))
      simp only [pomaderef08_Grows.l0]
      rw [if_pos c1, if_pos c2, if_pos c3, hb, if_neg (by decide), if_neg (by decide), if_neg (by decide), if_neg (by decide), mn_61, hdn]
    · have hl : long1 53 n = 2 * n := rfl
      have e1 : wrap64 (2 * (n : Int)) = ((2 * n : Nat) : Int) := by rw [w64 (by omega)]; omega
      rw [hl, if_neg (by omega)]
      refine Ev.step (fun k => ?_) (hrest (2 * n) (by omega))
      simp only [pomaderef08_Grows.l0]
      rw [if_pos c1, if_pos c2, if_pos c3, hb, if_neg (by decide), if_pos (by decide), e1, mn_61, hdn]
    · have hl : long1 54 n = n - 1 := rfl
      rw [hl]
      by_cases hn : n - 1 = 0
      · rw [if_pos hn]
        refine Ev.step (f := fun _ => some (0, 10)) (fun k => ?_) (Ev.now _)
        simp only [pomaderef08_Grows.l0]
        rw [if_pos c1, if_pos c2, if_pos c3, hb, if_neg (by decide), if_neg (by decide), if_pos (by decide), if_pos (by omega)]
      · have e1 : wrap64 ((n : Int) - 1) = ((n - 1 : Nat) : Int) := by rw [w64 (by omega)]; omega
        have e3 : ¬ (n : Int) = 1 := by omega
        rw [if_neg hn]
        refine Ev.step (fun k => ?_) (hrest (n - 1) hn)
        simp only [pomaderef08_Grows.l0]
        rw [if_pos c1, if_pos c2, if_pos c3, hb, if_neg (by decide), if_neg (by decide), if_pos (by decide), if_neg e3, e1, mn_61, hdn]
    · have hl : long1 55 n = n + 1 := rfl
      have e1 : wrap64 ((n : Int) + 1) = ((n + 1 : Nat) : Int) := by rw [w64 (by omega)]; omega
      rw [hl, if_neg (by omega)]
      refine Ev.step (fun k => ?_) (hrest (n + 1) (by omega))
      simp only [pomaderef08_Grows.l0]
      rw [if_pos c1, if_pos c2, if_pos c3, hb, if_neg (by decide), if_neg (by decide), if_neg (by decide), if_pos (by decide), e1, mn_61, hdn]
theorem ev_RGrows (s : ByteArray) : Ev (fun k => pomaderef08_Grows.f k s) (grows (L s)) := by
  unfold pomaderef08_Grows.f grows
  refine Ev.bind (ev_IsWord s) ?_
  by_cases h : wordE (L s) = 0
  · have hl := (wordE_ok.1 h).1
    rw [L_length] at hl
    simp only [if_pos h]
    rw [if_neg (show ¬ (wordE (L s) ≠ 0) from fun hh => hh h)]
    refine Ev.bind (ev_split s (by omega)) ?_
    unfold splR
    cases hp : parts (L s) with
    | none => exact Ev.now _
    | some q =>
      obtain ⟨o, x⟩ := q
      obtain ⟨h1, h2, h3⟩ := parts_all hp
      have hx : 0 < x.length := List.length_pos_iff.2 h2
      rw [L_length] at h3
      simp only [if_true, List.nil_append]
      have hg := ev_RGrows_l (B o) (by rw [L_B]; exact h1) (by rw [B_size]; omega) o.length (by rw [B_size]; exact Nat.le_refl _) x.length (by omega) (by omega)
      rw [L_B, List.take_of_length_le (Nat.le_refl _), growR_eq _ _ (by rw [List.length_reverse]; omega) (by omega)] at hg
      refine Ev.congr (fun k => ?_) hg
      rw [B_size, B_size, w64 (by omega)]
  · simp only [if_neg h]
    rw [if_pos h]; exact Ev.now _
/-! Life -/
theorem rdOf_get {xs : List ByteArray} {i : Nat} (h : i < xs.length) : rdOf ByteArray.empty xs (i : Int) = xs[i] := by
  unfold rdOf
  rw [Int.toNat_natCast, List.getD_eq_getElem?_getD, List.getElem?_eq_getElem h]; rfl
theorem ev_Life_l1 (xs : List ByteArray) (y : ByteArray) (hx : xs.length ≤ 100000) (R : Int × Int × Int)
    (hv : pos (L y) (xs.map L) = none → Ev (fun k => if (xs.length : Int) = 1000 then some (0, 0, 8) else if xs.length < 8796093022208 then pomaderef08_Life.l0 k (xs ++ [y]) else none) R)
    (hs : ∀ j, pos (L y) (xs.map L) = some j → R = ((j : Int), ((xs.length - j : Nat) : Int), 0)) (d : Nat) :
    ∀ i, i + d = xs.length → (∀ j, pos (L y) ((xs.map L).drop i) = some j → pos (L y) (xs.map L) = some (i + j)) → (pos (L y) ((xs.map L).drop i) = none → pos (L y) (xs.map L) = none) → Ev (fun k => pomaderef08_Life.l1 k xs y i) R := by
  induction d with
  | zero =>
    intro i hi h1 h2
    obtain rfl : i = xs.length := by omega
    have hn := h2 (by rw [List.drop_of_length_le (by rw [List.length_map]; exact Nat.le_refl _)]; rfl)
    refine Ev.step (fun k => ?_) (hv hn)
    simp only [pomaderef08_Life.l1]
    rw [if_neg (by omega)]
  | succ d ih =>
    intro i hi h1 h2
    have hlt : i < xs.length := by omega
    have c1 : (i : Int) < (xs.length : Int) := by omega
    have c2 : 0 ≤ (i : Int) := by omega
    have hup : wrap64 ((i : Int) + 1) = ((i + 1 : Nat) : Int) := by rw [w64 (by omega)]; omega
    have hdr : (xs.map L).drop i = L xs[i] :: (xs.map L).drop (i + 1) := by
      rw [List.drop_eq_getElem_cons (by rw [List.length_map]; exact hlt), List.getElem_map]
    rw [hdr, pos] at h1 h2
    by_cases e : L xs[i] = L y
    · have hp := h1 0 (by rw [if_pos e])
      have hR := hs _ hp
      rw [Nat.add_zero] at hR
      have hsub : wrap64 ((xs.length : Int) - (i : Int)) = ((xs.length - i : Nat) : Int) := by rw [w64 (by omega)]; omega
      rw [hR]
      refine Ev.step (f := fun _ => some ((i : Int), ((xs.length - i : Nat) : Int), 0)) (fun k => ?_) (Ev.now _)
      simp only [pomaderef08_Life.l1]
      rw [if_pos c1, if_pos c2, rdOf_get hlt, toL, toL, if_pos e, hsub]
    · rw [if_neg e] at h1 h2
      refine Ev.step (fun k => ?_) (ih (i + 1) (by omega) (fun j hj => ?_) (fun hj => ?_))
      · simp only [pomaderef08_Life.l1]
        rw [if_pos c1, if_pos c2, rdOf_get hlt, toL, toL, if_neg e, hup]
      · have := h1 (j + 1) (by rw [hj]; rfl)
        rw [this]; congr 1; omega
      · exact h2 (by rw [hj]; rfl)
theorem ev_Life_step (init : List ByteArray) (last : ByteArray) (hi : init.length ≤ 999) (hs : last.size ≤ 100000) (R : Int × Int × Int)
    (h8 : (says (L last)).2 = 8 → R = (0, 0, 8)) (hE : (says (L last)).2 ≠ 8 → (says (L last)).2 ≠ 0 → R = (((init.length + 1 : Nat) : Int), 0, 0))
    (hF : (says (L last)).2 = 0 → ∀ j, pos (says (L last)).1 ((init ++ [last]).map L) = some j → R = ((j : Int), ((init.length + 1 - j : Nat) : Int), 0))
    (hN : (says (L last)).2 = 0 → pos (says (L last)).1 ((init ++ [last]).map L) = none → Ev (fun k => if ((init ++ [last]).length : Int) = 1000 then some (0, 0, 8) else if (init ++ [last]).length < 8796093022208 then pomaderef08_Life.l0 k ((init ++ [last]) ++ [B (says (L last)).1]) else none) R) :
    Ev (fun k => pomaderef08_Life.l0 k (init ++ [last])) R := by
  have hlen : (init ++ [last]).length = init.length + 1 := by simp
  have hw : wrap64 (((init ++ [last]).length : Int) - 1) = ((init.length : Nat) : Int) := by rw [hlen, w64 (by omega)]; omega
  have hg : rdOf ByteArray.empty (init ++ [last]) ((init.length : Nat) : Int) = last := by
    rw [rdOf_get (by rw [hlen]; omega)]; simp
  have c1 : 0 ≤ ((init.length : Nat) : Int) := by omega
  have c2 : ((init.length : Nat) : Int) < ((init ++ [last]).length : Int) := by rw [hlen]; omega
  obtain ⟨m, hm⟩ : ∃ m, says (L last) = m := ⟨_, rfl⟩
  have hsy := ev_Says last hs
  rw [hm] at h8 hE hF hN hsy
  have key : Ev (fun k => (pomaderef08_Says.f k last).bind fun q => if q.2 = 8 then some (0, 0, q.2) else if q.2 = 0 then pomaderef08_Life.l1 k (init ++ [last]) q.1 0 else some (((init ++ [last]).length : Int), 0, 0)) R := by
    refine Ev.bind hsy ?_
    dsimp only
    by_cases e8 : m.2 = 8
    · simp only [if_pos e8]
      rw [h8 e8, e8]; exact Ev.now _
    · simp only [if_neg e8]
      by_cases e0 : m.2 = 0
      · simp only [if_pos e0]
        have := ev_Life_l1 (init ++ [last]) (B m.1) (by rw [hlen]; omega) R (by rw [L_B]; exact hN e0) (by rw [L_B, hlen]; exact hF e0) (init ++ [last]).length 0 (by omega) (fun j hj => by rw [List.drop_zero] at hj; rw [hj, Nat.zero_add]) (fun hj => by rw [List.drop_zero] at hj; exact hj)
        exact this
      · simp only [if_neg e0]
        rw [hE e8 e0, hlen]; exact Ev.now _
  refine Ev.step (fun k => ?_) key
  simp only [pomaderef08_Life.l0]
  rw [hw, if_pos c1, if_pos c2, hg]
theorem ev_Life_l0 (f : Nat) : ∀ (init : List ByteArray) (last : ByteArray), f + init.length = 999 → (L last).all isDig = true → last.size ≤ 100000 → Ev (fun k => pomaderef08_Life.l0 k (init ++ [last])) (lifeR f (init.map L) (L last)) := by
  induction f with
  | zero =>
    intro init last hf hd h2
    refine ev_Life_step init last (by omega) h2 _ (fun h => by rw [lifeR, if_pos h]) (fun h h0 => by rw [lifeR, if_neg h, if_pos h0, List.length_map]) (fun h j hj => ?_) (fun h hj => ?_)
    · rw [List.map_append, List.map_singleton] at hj
      rw [lifeR, if_neg (by rw [h]; decide), if_neg (fun hh => hh h), hj, List.length_map]
    · rw [List.map_append, List.map_singleton] at hj
      rw [lifeR, if_neg (by rw [h]; decide), if_neg (fun hh => hh h), hj]
      refine Ev.congr (f := fun _ => some (0, 0, 8)) (fun k => ?_) (Ev.now _)
      rw [if_pos (by simp; omega)]
  | succ f ih =>
    intro init last hf hd h2
    refine ev_Life_step init last (by omega) h2 _ (fun h => by rw [lifeR, if_pos h]) (fun h h0 => by rw [lifeR, if_neg h, if_pos h0, List.length_map]) (fun h j hj => ?_) (fun h hj => ?_)
    · rw [List.map_append, List.map_singleton] at hj
      rw [lifeR, if_neg (by rw [h]; decide), if_neg (fun hh => hh h), hj, List.length_map]
    · rw [List.map_append, List.map_singleton] at hj
      rw [lifeR, if_neg (by rw [h]; decide), if_neg (fun hh => hh h), hj]
      have hok := says_ok hd h
      have hsm := says_small (L last) (by rw [L_length]; exact h2)
      have := ih (init ++ [last]) (B (says (L last)).1) (by simp; omega) (by rw [L_B]; exact hok.1) (by rw [B_size]; exact hsm)
      rw [L_B, List.map_append, List.map_singleton] at this
      refine Ev.congr (fun k => ?_) this
      rw [if_neg (by simp; omega), if_pos (by simp; omega)]
theorem ev_RLife (s : ByteArray) : Ev (fun k => pomaderef08_Life.f k s) (life (L s)) := by
  unfold pomaderef08_Life.f life
  refine Ev.bind (ev_IsWord s) ?_
  by_cases h : wordE (L s) = 0
  · have hk := wordE_ok.1 h
    have hl := hk.1
    rw [L_length] at hl
    simp only [if_pos h]
    rw [if_neg (show ¬ (wordE (L s) ≠ 0) from fun hh => hh h), ← lifeR_eq 999 [] (L s) rfl]
    exact ev_Life_l0 999 [] s rfl hk.2.1 (by omega)
  · simp only [if_neg h]
    rw [if_pos h]; exact Ev.now _

end Go.Proofs.YtcjbnonjhahakaaDoor.Pure
