/- Life tells truly where a word of the list occurs again, or that its last word makes nothing: for all strings: no condition. -/
import Derived.Test.YtcjbnonjhahakaaDoorEvB
import Derived.Test.YtcjbnonjhahakaaDoorPrint10
namespace Go.Proofs.YtcjbnonjhahakaaDoor.Pure
open Go.RowKit Go.Proofs.YtcjbnonjhahakaaDoor.Hand Go.Proofs.YtcjbnonjhahakaaDoor.Print Go.Proofs.YtcjbnonjhahakaaDoor.Math Go.Proofs.YtcjbnonjhahakaaDoorW.PrintWords Go.Proofs.YtcjbnonjhahakaaDoorW.PrintLast Go.Proofs.YtcjbnonjhahakaaDoorW.PrintMore
set_option linter.unusedVariables false
set_option linter.unusedSimpArgs false

theorem alive_b : (pomadelaw08_alive.f.bind fun t => some t) = some true := by rw [alive_true]; rfl
theorem rdOf_get {xs : List ByteArray} {i : Nat} (h : i < xs.length) : rdOf ByteArray.empty xs (i : Int) = xs[i] := by
  unfold rdOf
  rw [Int.toNat_natCast, List.getD_eq_getElem?_getD, List.getElem?_eq_getElem h]; rfl
theorem lifeGo_err (f : Nat) (seen : List (List UInt8)) (w : List UInt8) (h : (lifeGo f seen w).2.2 ≠ 0) : (lifeGo f seen w).1 = 0 ∧ (lifeGo f seen w).2.1 = 0 := by
  induction f generalizing seen w with
  | zero =>
    rw [lifeGo] at h ⊢
    cases hp : pos w seen with
    | none => exact ⟨rfl, rfl⟩
    | some i => rw [hp] at h; simp at h
  | succ f ih =>
    rw [lifeGo] at h ⊢
    cases hp : pos w seen with
    | some i => rw [hp] at h; simp at h
    | none =>
      rw [hp] at h
      dsimp only at h ⊢
      by_cases h1 : (says w).2 = 10
      · rw [if_pos h1] at h; simp at h
      · rw [if_neg h1] at h ⊢
        by_cases h2 : (says w).2 = 8
        · rw [if_pos h2]; exact ⟨rfl, rfl⟩
        · rw [if_neg h2] at h ⊢
          exact ih _ _ h
theorem lifeGo_le (f : Nat) (seen : List (List UInt8)) (w : List UInt8) : (lifeGo f seen w).1 ≤ ((seen.length + f + 1 : Nat) : Int) ∧ (lifeGo f seen w).2.1 ≤ ((seen.length + f + 1 : Nat) : Int) := by
  induction f generalizing seen w with
  | zero =>
    rw [lifeGo]
    cases hp : pos w seen with
    | none => dsimp only; omega
    | some i => have := (pos_lt hp).1; dsimp only; omega
  | succ f ih =>
    rw [lifeGo]
    cases hp : pos w seen with
    | some i => have := (pos_lt hp).1; dsimp only; omega
    | none =>
      dsimp only
      by_cases h1 : (says w).2 = 10
      · rw [if_pos h1]; dsimp only; omega
      · rw [if_neg h1]
        by_cases h2 : (says w).2 = 8
        · rw [if_pos h2]; dsimp only; omega
        · rw [if_neg h2]
          have := ih (seen ++ [w]) (says w).1
          rw [List.length_append, List.length_singleton] at this
          omega
theorem ev_l1 (a b : Int) (xs : List ByteArray) (y : ByteArray) (hx : xs.length ≤ 100000) (hno : ∀ x ∈ xs, L x ≠ L y) (hv : Ev (fun k => pomadelaw08_ParrotLife.l0 k a b (xs ++ [y])) true) (d : Nat) :
    ∀ i, i + d = xs.length → Ev (fun k => pomadelaw08_ParrotLife.l1 k a b xs y i) true := by
  induction d with
  | zero =>
    intro i hi
    obtain rfl : i = xs.length := by omega
    refine Ev.step (fun k => ?_) hv
    simp only [pomadelaw08_ParrotLife.l1]
    rw [if_neg (by omega), if_pos (by omega)]
  | succ d ih =>
    intro i hi
    have hlt : i < xs.length := by omega
    have c1 : (i : Int) < (xs.length : Int) := by omega
    have c2 : 0 ≤ (i : Int) := by omega
    have hup : wrap64 ((i : Int) + 1) = ((i + 1 : Nat) : Int) := by rw [w64 (by omega)]; omega
    refine Ev.step (fun k => ?_) (ih (i + 1) (by omega))
    simp only [pomadelaw08_ParrotLife.l1]
    rw [if_pos c1, if_pos c2, rdOf_get hlt, toL, toL, if_neg (hno _ (List.getElem_mem hlt)), hup]
theorem ev_l0 (q : Nat) : ∀ (init : List ByteArray) (last : ByteArray) (a b : Int), a + b ≤ 50 → 0 ≤ a → 0 ≤ b → (L last).all isDig = true → 1 ≤ last.size → pos (L last) (init.map L) = none → lifeGo q (init.map L) (L last) = (a, b, 0) → Ev (fun k => pomadelaw08_ParrotLife.l0 k a b (init ++ [last])) true := by
  induction q with
  | zero =>
    intro init last a b _ _ _ _ _ hp hg
    rw [lifeGo, hp] at hg
    simp at hg
  | succ q ih =>
    intro init last a b hab ha hb hd h1 hp hg
    have hsum := lifeGo_sum (q + 1) (init.map L) (L last) hp (by rw [hg])
    rw [hg, List.length_map] at hsum
    dsimp only at hsum
    rw [lifeGo, hp] at hg
    dsimp only at hg
    have hlen : (init ++ [last]).length = init.length + 1 := by simp
    have hsmall : init.length + 1 ≤ 50 := by omega
    have c0 : ((init ++ [last]).length : Int) ≤ a + b := by rw [hlen]; exact hsum
    have hgl : rdOf ByteArray.empty (init ++ [last]) ((init.length : Nat) : Int) = last := by
      rw [rdOf_get (by rw [hlen]; omega)]; simp
    have c1 : 0 ≤ ((init.length : Nat) : Int) := by omega
    have c2 : ((init.length : Nat) : Int) < ((init ++ [last]).length : Int) := by rw [hlen]; omega
    have hwab : wrap64 (a + b) = a + b := by rw [w64 (by omega)]
    have hw : wrap64 (((init ++ [last]).length : Int) - 1) = ((init.length : Nat) : Int) := by rw [hlen, w64 (by omega)]; omega
    by_cases hbig : (last.size : Int) > 200
    · refine Ev.step (f := fun _ => some true) (fun k => ?_) (Ev.now _)
      simp only [pomadelaw08_ParrotLife.l0]
      rw [hwab, if_pos c0, hw, if_pos c1, if_pos c2, hgl, if_pos hbig, alive_b]
    · have hwd : wordE (L last) = 0 := wordE_ok.2 ⟨by rw [L_length]; omega, hd, fun e => by rw [L_nil] at e; omega⟩
      have hmk : make (L last) = says (L last) := by unfold make; rw [if_neg (fun hh => hh hwd)]
      -- what the walk through this round comes to
      have step : ∀ (g : Nat → Option Bool), (∀ k, pomadelaw08_ParrotLife.l0 (k + 1) a b (init ++ [last]) = g k) → Ev g true → Ev (fun k => pomadelaw08_ParrotLife.l0 k a b (init ++ [last])) true := fun g h e => Ev.step h e
      by_cases e10 : (says (L last)).2 = 10
      · rw [if_pos e10] at hg
        simp only [Prod.mk.injEq, List.length_map] at hg
        obtain ⟨rfl, rfl, _⟩ := hg
        refine step (fun _ => some true) (fun k => ?_) (Ev.now _)
        simp only [pomadelaw08_ParrotLife.l0]
        rw [hwab, if_pos c0, hw, if_pos c1, if_pos c2, hgl, if_neg hbig, Make_is, Option.bind_some, hmk, e10]
        dsimp only
        rw [if_neg (by decide), if_pos trivial, if_pos (by rw [hlen]), if_pos rfl, alive_b]
      · rw [if_neg e10] at hg
        by_cases e8 : (says (L last)).2 = 8
        · rw [if_pos e8] at hg; simp at hg
        · rw [if_neg e8] at hg
          have e0 : (says (L last)).2 = 0 := by
            rcases says_err (L last) with e | e | e
            · exact e
            · rw [e] at e10; exact absurd rfl e10
            · rw [e] at e8; exact absurd rfl e8
          have hok := says_ok hd e0
          obtain ⟨y, hy⟩ : ∃ y, (says (L last)).1 = y := ⟨_, rfl⟩
          rw [hy] at hok hg
          have hmapl : (init ++ [last]).map L = init.map L ++ [L last] := by simp
          cases hq : pos y (init.map L ++ [L last]) with
          | some i =>
            have hil := pos_lt hq
            rw [← hmapl, List.length_map, hlen] at hil
            have hg2 : ((i : Int), (((init.map L ++ [L last]).length - i : Nat) : Int), (0 : Int)) = (a, b, 0) := by
              cases q with
              | zero => rw [lifeGo, hq] at hg; exact hg
              | succ q => rw [lifeGo, hq] at hg; exact hg
            rw [← hmapl, List.length_map, hlen] at hg2
            simp only [Prod.mk.injEq] at hg2
            obtain ⟨rfl, rfl, _⟩ := hg2
            have hli : i < (init ++ [last]).length := by rw [hlen]; exact hil.1
            have hxi : L ((init ++ [last])[i]) = y := by
              have := hil.2
              rw [List.getElem?_map, List.getElem?_eq_getElem hli] at this
              exact Option.some.inj this
            refine step (fun _ => some true) (fun k => ?_) (Ev.now _)
            simp only [pomadelaw08_ParrotLife.l0]
            rw [hwab, if_pos c0, hw, if_pos c1, if_pos c2, hgl, if_neg hbig, Make_is, Option.bind_some, hmk, e0, hy]
            dsimp only
            rw [if_pos rfl, if_pos (by rw [hlen]; omega), if_pos (by omega), if_pos (by omega), if_pos (by rw [hlen]; omega), rdOf_get hli, toL, toL, L_B, hxi, if_pos rfl, alive_b]
          | none =>
            have hs2 := lifeGo_sum q (init.map L ++ [L last]) y hq (by rw [hg])
            rw [hg, ← hmapl, List.length_map, hlen] at hs2
            dsimp only at hs2
            have hys : 1 ≤ (B y).size := by rw [B_size]; exact List.length_pos_iff.2 hok.2
            have hrec := ih (init ++ [last]) (B y) a b hab ha hb (by rw [L_B]; exact hok.1) hys (by rw [L_B, hmapl]; exact hq) (by rw [L_B, hmapl]; exact hg)
            have hno : ∀ x ∈ init ++ [last], L x ≠ L (B y) := by
              intro x hx e
              rw [L_B] at e
              refine pos_none hq ?_
              rw [← hmapl, ← e]
              exact List.mem_map_of_mem hx
            refine step _ (fun k => ?_) (ev_l1 a b (init ++ [last]) (B y) (by rw [hlen]; omega) hno hrec (init ++ [last]).length 0 (by omega))
            simp only [pomadelaw08_ParrotLife.l0]
            rw [hwab, if_pos c0, hw, if_pos c1, if_pos c2, hgl, if_neg hbig, Make_is, Option.bind_some, hmk, e0, hy]
            dsimp only
            rw [if_pos rfl, if_neg (by rw [hlen]; omega)]; rfl
theorem ParrotLife : pomadelaw08_ParrotLife.Pure := by
  intro a0 w0
  refine Ev.rounds ?_
  unfold pomadelaw08_ParrotLife.f
  by_cases c1 : (a0.size : Int) > 300
  · simp only [if_pos c1]
    rw [alive_b]; exact Ev.now _
  · simp only [if_neg c1]
    unfold parrot_Life.f
    simp only [Option.bind_some]
    obtain ⟨a, b, e, hl⟩ : ∃ a b e, life (L a0) = (a, b, e) := ⟨_, _, _, rfl⟩
    rw [hl]
    dsimp only
    have hcase : (e ≠ 0 ∧ a = 0 ∧ b = 0) ∨ (e = 0 ∧ 0 ≤ a ∧ 0 ≤ b ∧ 1 ≤ a + b ∧ a ≤ 1001 ∧ b ≤ 1001 ∧ wordE (L a0) = 0 ∧ lifeGo 1000 [] (L a0) = (a, b, 0)) := by
      unfold life at hl
      by_cases h : wordE (L a0) = 0
      · rw [if_neg (fun hh => hh h)] at hl
        by_cases he : e = 0
        · subst he
          have h1 := lifeGo_nonneg 1000 [] (L a0)
          have h2 := lifeGo_sum 1000 [] (L a0) rfl (by rw [hl])
          rw [hl] at h1 h2
          dsimp only at h1 h2
          have h3 := lifeGo_le 1000 [] (L a0)
          rw [hl] at h3
          exact .inr ⟨rfl, h1.1, h1.2, by simpa using h2, h3.1, h3.2, h, hl⟩
        · have := lifeGo_err 1000 [] (L a0) (by rw [hl]; exact he)
          rw [hl] at this
          exact .inl ⟨he, this.1, this.2⟩
      · rw [if_pos h] at hl
        simp only [Prod.mk.injEq] at hl
        obtain ⟨rfl, rfl, rfl⟩ := hl
        exact .inl ⟨h, rfl, rfl⟩
    have hT0 : ∀ a b, Ev (fun k => pomadelaw08_ParrotLife.j0 k a0 a b 0 true) true := fun a b =>
      Ev.step (f := fun _ => some true) (fun k => by simp only [pomadelaw08_ParrotLife.j0, if_true]; exact alive_b) (Ev.now _)
    rcases hcase with ⟨he, rfl, rfl⟩ | ⟨rfl, ha, hb, hab, ha2, hb2, hwd, hg⟩
    · simp only [if_neg he]
      refine Ev.step (f := fun _ => some true) (fun k => ?_) (Ev.now _)
      simp only [pomadelaw08_ParrotLife.j0]
      rw [if_pos trivial, if_neg he, if_pos (by rw [w64 (by omega)]; rfl), alive_b]
    · simp only [if_true]
      have hwab : wrap64 (a + b) = a + b := by rw [w64 (by omega)]
      by_cases c50 : a + b > 50
      · have : decide (wrap64 (a + b) > 50) = true := decide_eq_true (by rw [hwab]; exact c50)
        rw [this]; exact hT0 a b
      · have : decide (wrap64 (a + b) > 50) = false := decide_eq_false (by rw [hwab]; exact c50)
        rw [this]
        have hk := wordE_ok.1 hwd
        have h3 := ev_l0 1000 [] a0 a b (by omega) ha hb hk.2.1 (by have := List.length_pos_iff.2 hk.2.2; rw [L_length] at this; omega) rfl hg
        have hj1 : Ev (fun k => pomadelaw08_ParrotLife.j1 k a0 a b false) true := by
          refine Ev.step (fun k => ?_) h3
          simp only [pomadelaw08_ParrotLife.j1]
          rw [if_neg (by decide)]; rfl
        refine Ev.step (fun k => ?_) hj1
        simp only [pomadelaw08_ParrotLife.j0]
        have : decide (wrap64 (a + b) < 1) = false := decide_eq_false (by rw [hwab]; omega)
        rw [if_neg (by decide), if_neg (by omega), if_neg (by omega), this]

end Go.Proofs.YtcjbnonjhahakaaDoor.Pure
