/- What Selves, the program's and the reference's, come to. -/
import Derived.Test.YtcjbnonjhahakaaDoorEvB
import Derived.Test.YtcjbnonjhahakaaDoorFis1
namespace Go.Proofs.YtcjbnonjhahakaaDoor.Pure
open Go.RowKit Go.Proofs.YtcjbnonjhahakaaDoor.Hand Go.Proofs.YtcjbnonjhahakaaDoor.Print Go.Proofs.YtcjbnonjhahakaaDoor.Math Go.Proofs.YtcjbnonjhahakaaDoorW.PrintWords Go.Proofs.YtcjbnonjhahakaaDoorW.PrintLast Go.Proofs.YtcjbnonjhahakaaDoorW.PrintMore
set_option linter.unusedVariables false
set_option linter.unusedSimpArgs false

open Go.Proofs.YtcjbnonjhahakaaDoor.Fis
theorem parts_dead {x : List UInt8} {d : UInt8} (hp : parts (x ++ [49]) = none) (hd : ¬ (50 ≤ d.toNat ∧ d.toNat ≤ 55)) (y : List UInt8) : parts (x ++ d :: y) = none := by
  cases h : parts (x ++ d :: y) with
  | none => rfl
  | some q =>
    exfalso
    obtain ⟨o, z⟩ := q
    obtain ⟨e, ho, hz⟩ := parts_some h
    rcases List.append_eq_append_iff.1 e with ⟨a, ha, hb⟩ | ⟨c, hc, hb⟩
    · cases a with
      | nil =>
        injection hb with h1 h2
        subst h1
        exact hd (by decide)
      | cons f a =>
        injection hb with h1 h2
        subst h1
        rw [ha, List.all_append, List.all_cons] at ho
        simp only [Bool.and_eq_true] at ho
        have := (isOp_iff d).1 ho.2.1
        exact hd (by omega)
    · cases c with
      | nil =>
        injection hb with h1 h2
        subst h1
        exact hd (by decide)
      | cons f c =>
        injection hb with h1 h2
        subst h1
        rw [hc, List.append_assoc, List.cons_append, parts_mk ho (by simp)] at hp
        cases hp
theorem says_none {w : List UInt8} (h : parts w = none) : says w = ([], 10) := by unfold says; rw [h]
theorem selL_dead (m : Nat) : ∀ (x : List UInt8), (∀ y, parts (x ++ y) = none) → selL m x = [] := by
  induction m with
  | zero =>
    intro x h
    unfold selL
    have := says_none (by simpa using h [])
    rw [this, if_neg (by simp)]
  | succ m ih =>
    intro x h
    unfold selL
    rw [List.flatMap_eq_nil_iff]
    intro d _
    exact ih _ (fun y => by rw [List.append_assoc]; exact h _)
theorem selL_mem (m : Nat) : ∀ (x y : List UInt8), y ∈ selL m x ↔ ∃ z, z.length = m ∧ z.all isDig = true ∧ y = x ++ z ∧ (says y).2 = 0 ∧ (says y).1 = y := by
  induction m with
  | zero =>
    intro x y
    unfold selL
    constructor
    · intro h
      split at h
      · rename_i c
        rw [List.mem_singleton] at h
        subst h
        exact ⟨[], rfl, rfl, by simp, c⟩
      · cases h
    · rintro ⟨z, hz, _, rfl, c⟩
      obtain rfl := List.eq_nil_of_length_eq_zero hz
      rw [List.append_nil] at c ⊢
      rw [if_pos c]
      exact List.mem_singleton.2 rfl
  | succ m ih =>
    intro x y
    rw [selL, List.mem_flatMap]
    constructor
    · rintro ⟨d, hd, h⟩
      obtain ⟨z, h1, h2, rfl, h4⟩ := (ih _ _).1 h
      refine ⟨d :: z, by simp [h1], ?_, by simp, h4⟩
      rw [List.all_cons, h2, Bool.and_true]
      simp only [List.mem_cons, List.not_mem_nil, or_false] at hd
      rcases hd with rfl | rfl | rfl | rfl | rfl | rfl | rfl | rfl | rfl <;> rfl
    · rintro ⟨z, h1, h2, rfl, h4⟩
      cases z with
      | nil => cases h1
      | cons d z =>
        rw [List.all_cons, Bool.and_eq_true] at h2
        refine ⟨d, ?_, (ih _ _).2 ⟨z, by simpa using h1, h2.2, by simp, h4⟩⟩
        have hd := (isDig_iff d).1 h2.1
        have hk : ∀ n : Nat, d.toNat = n → n < 256 → d = UInt8.ofNat n := by
          intro n hn hl
          apply UInt8.toNat_inj.1
          rw [hn, UInt8.toNat_ofNat']
          omega
        have : d.toNat = 49 ∨ d.toNat = 50 ∨ d.toNat = 51 ∨ d.toNat = 52 ∨ d.toNat = 53 ∨ d.toNat = 54 ∨ d.toNat = 55 ∨ d.toNat = 56 ∨ d.toNat = 57 := by omega
        rcases this with h | h | h | h | h | h | h | h | h <;> (rw [hk _ h (by decide)]; decide)
theorem less_prefix (x : List UInt8) {d e : UInt8} (h : d < e) (u v : List UInt8) : Op.bytesLess (x ++ d :: u) (x ++ e :: v) = true := by
  induction x with
  | nil => simp [Op.bytesLess, h]
  | cons a x ih => rw [List.cons_append, List.cons_append, Op.bytesLess, ih]; simp
theorem selL_sorted (m : Nat) : ∀ (x : List UInt8), (selL m x).Pairwise fun a b => Op.bytesLess a b = true := by
  induction m with
  | zero =>
    intro x
    unfold selL
    split
    · exact List.pairwise_singleton _ _
    · exact List.Pairwise.nil
  | succ m ih =>
    intro x
    rw [selL, List.pairwise_flatMap]
    refine ⟨fun d _ => ih _, ?_⟩
    have hp : ([49, 50, 51, 52, 53, 54, 55, 56, 57] : List UInt8).Pairwise (· < ·) := by decide
    refine hp.imp ?_
    intro d e hlt a ha b hb
    obtain ⟨u, _, _, rfl, _⟩ := (selL_mem _ _ _).1 ha
    obtain ⟨v, _, _, rfl, _⟩ := (selL_mem _ _ _).1 hb
    rw [List.append_assoc, List.append_assoc]
    exact less_prefix x hlt u v
/-! the reference's, which goes on with a word only while it can still make itself -/
theorem splR_plain (x : List UInt8) : (splR [] x).2.2 = true ↔ parts x ≠ none := by
  unfold splR
  cases parts x with
  | none => simp
  | some q => simp
theorem ev_selves (long : Nat) (hl : long ≤ 6) (m : Nat) : ∀ (s : ByteArray), m + s.size = long → Ev (fun k => pomaderef08_selves.f k s (long : Int)) ((selL m (L s)).map B) := by
  induction m with
  | zero =>
    intro s hs
    have he : Ev (fun k => (pomaderef08_Says.f k s).bind fun q => if q.2 = 0 then (if q.1.toList = s.toList then some [s] else some []) else some []) ((selL 0 (L s)).map B) := by
      refine Ev.bind (ev_Says s (by omega)) ?_
      unfold selL
      by_cases h1 : (says (L s)).2 = 0
      · by_cases h2 : (says (L s)).1 = L s
        · rw [if_pos h1, if_pos (by rw [h2, B_L]), if_pos ⟨h1, h2⟩, List.map_singleton, B_L]
          exact Ev.now _
        · rw [if_pos h1, if_neg (fun e => h2 (by rw [toL, toL, L_B] at e; exact e)), if_neg (fun c => h2 c.2)]
          exact Ev.now _
      · rw [if_neg h1, if_neg (fun c => h1 c.1)]
        exact Ev.now _
    refine Ev.step (fun k => ?_) he
    simp only [pomaderef08_selves.f]
    rw [if_pos (by omega)]
  | succ m ih =>
    intro s hs
    have hloop : ∀ (j i : Nat) (out : List ByteArray), i + j = 9 → out.length ≤ i * 600000 → Ev (fun k => pomaderef08_selves.l0 k s (long : Int) out ((splR [] (L s ++ [49])).2.2) (49 + (i : Int))) (out ++ ((digs.drop i).flatMap fun d => selL m (L s ++ [d])).map B) := by
      intro j
      induction j with
      | zero =>
        intro i out hi ho
        obtain rfl : i = 9 := by omega
        refine Ev.step (f := fun _ => some out) (fun k => ?_) (by
          rw [show digs.drop 9 = [] from rfl, List.flatMap_nil, List.map_nil, List.append_nil]; exact Ev.now _)
        simp only [pomaderef08_selves.l0]
        rw [if_neg (by decide)]
      | succ j ihj =>
        intro i out hi ho
        obtain ⟨d, hdi, hdn, hdd⟩ := digs_get i (by omega)
        have hdrop : digs.drop i = d :: digs.drop (i + 1) := by
          rw [List.getElem?_eq_some_iff] at hdi
          obtain ⟨h1, h2⟩ := hdi
          rw [List.drop_eq_getElem_cons h1, h2]
        have hsn : strOfNums [49 + (i : Int)] = B [d] := by rw [← strOfNums_B, List.map_singleton, hdn]
        have hup : (49 + (i : Int) + 1) % 256 = 49 + ((i + 1 : Nat) : Int) := by omega
        have hL : L (s ++ B [d]) = L s ++ [d] := by rw [L_append, L_B]
        have hz : (s ++ B [d]).size = s.size + 1 := by rw [← L_length, hL]; simp [L_length]
        have hrec := ih (s ++ B [d]) (by rw [hz]; omega)
        rw [hL] at hrec
        have hlen := selL_le m (L s ++ [d])
        have h9 : 9 ^ m ≤ 531441 := Nat.le_trans (Nat.pow_le_pow_right (by decide) (show m ≤ 6 by omega)) (by decide)
        have hstep : Ev (fun k => (pomaderef08_selves.f k (s ++ B [d]) (long : Int)).bind fun t => if out.length + t.length < 8796093022208 then pomaderef08_selves.l0 k s (long : Int) (out ++ t) ((splR [] (L s ++ [49])).2.2) (49 + ((i + 1 : Nat) : Int)) else none)
            (out ++ ((digs.drop i).flatMap fun d => selL m (L s ++ [d])).map B) := by
          refine Ev.bind hrec ?_
          rw [List.length_map]
          simp only [if_pos (show out.length + (selL m (L s ++ [d])).length < 8796093022208 by omega)]
          rw [hdrop, List.flatMap_cons, List.map_append, ← List.append_assoc]
          exact ihj (i + 1) _ (by omega) (by rw [List.length_append, List.length_map]; omega)
        by_cases hp : (splR [] (L s ++ [49])).2.2 = true
        · refine Ev.step (fun k => ?_) hstep
          simp only [pomaderef08_selves.l0]
          rw [if_pos (by omega), if_pos hp, Option.bind_some, hsn, if_pos (by rw [B_size]; simp; omega), hup]
        · have hpn : parts (L s ++ [49]) = none := by
            cases h : parts (L s ++ [49]) with
            | none => rfl
            | some q => exact absurd ((splR_plain _).2 (by rw [h]; simp)) hp
          by_cases h5 : 50 ≤ d.toNat ∧ d.toNat ≤ 55
          · refine Ev.step (fun k => ?_) hstep
            simp only [pomaderef08_selves.l0]
            rw [if_pos (by omega), if_neg hp, if_pos (by omega), if_pos (by omega), Option.bind_some, hsn, if_pos (by rw [B_size]; simp; omega), hup]
          · have hdead : selL m (L s ++ [d]) = [] := selL_dead m _ (fun y => by rw [List.append_assoc]; exact parts_dead hpn h5 y)
            rw [hdrop, List.flatMap_cons, hdead, List.nil_append]
            refine Ev.step (fun k => ?_) (ihj (i + 1) out (by omega) (Nat.le_trans ho (Nat.mul_le_mul_right _ (Nat.le_succ i))))
            simp only [pomaderef08_selves.l0]
            rw [if_pos (by omega), if_neg hp, hup]
            by_cases h6 : 49 + (i : Int) ≥ 50
            · rw [if_pos h6, if_neg (by omega)]
            · rw [if_neg h6]
    have h0 := hloop 9 0 [] rfl (by simp)
    rw [List.nil_append, List.drop_zero] at h0
    have he : Ev (fun k => (pomaderef08_split.f k (s ++ (⟨#[49]⟩ : ByteArray))).bind fun q => pomaderef08_selves.l0 k s (long : Int) [] q.2.2 49) ((selL (m + 1) (L s)).map B) := by
      have hL : L (s ++ (⟨#[49]⟩ : ByteArray)) = L s ++ [49] := by rw [L_append]; rfl
      have := ev_split (s ++ (⟨#[49]⟩ : ByteArray)) (by rw [ByteArray.size_append]; have : (⟨#[49]⟩ : ByteArray).size = 1 := rfl; omega)
      rw [hL] at this
      exact Ev.bind this h0
    refine Ev.step (fun k => ?_) he
    simp only [pomaderef08_selves.f]
    rw [if_neg (by omega), if_pos (by omega)]
theorem ev_RSelves (a0 : Int) (R : List ByteArray × Int) (h : parrot_Selves.f a0 = some R) : Ev (fun k => pomaderef08_Selves.f k a0) R := by
  unfold parrot_Selves.f at h
  by_cases c : a0 < 1 ∨ a0 > 6
  · rw [if_pos c] at h
    obtain rfl := Option.some.inj h
    refine Ev.congr (f := fun _ => some ([], 4)) (fun k => ?_) (Ev.now _)
    unfold pomaderef08_Selves.f
    rcases c with c | c
    · rw [if_pos c]
    · rw [if_neg (by omega), if_pos c]
  · rw [if_neg c] at h
    obtain rfl := Option.some.inj h
    obtain ⟨n, rfl⟩ : ∃ n : Nat, a0 = (n : Int) := ⟨a0.toNat, by omega⟩
    refine Ev.congr (fun k => ?_) (Ev.bind (ev_selves n (by omega) n (⟨#[]⟩ : ByteArray) rfl) (f := fun _ t => some (t, 0)) (Ev.now _))
    unfold pomaderef08_Selves.f
    rw [if_neg (by omega), if_neg (by omega)]
theorem ev_texts_l (l : List ByteArray) (hl : l.length ≤ 1000000) (j : Nat) : ∀ i, i + j = l.length → Ev (fun k => pomadelaw08_texts.l0 k l l (i : Int)) true := by
  induction j with
  | zero =>
    intro i hi
    refine Ev.step (f := fun _ => some true) (fun k => ?_) (Ev.now _)
    simp only [pomadelaw08_texts.l0]
    rw [if_neg (by omega)]
  | succ j ih =>
    intro i hi
    have hup : wrap64 ((i : Int) + 1) = ((i + 1 : Nat) : Int) := by rw [w64 (by omega)]; omega
    refine Ev.step (fun k => ?_) (ih (i + 1) (by omega))
    simp only [pomadelaw08_texts.l0]
    rw [if_pos (by omega), if_pos (by omega), if_pos (by omega), if_pos trivial, hup]
theorem ev_texts (l : List ByteArray) (hl : l.length ≤ 1000000) : Ev (fun k => pomadelaw08_texts.f k l l) true := by
  refine Ev.congr (fun k => ?_) (ev_texts_l l hl l.length 0 (by omega))
  unfold pomadelaw08_texts.f
  rw [if_pos rfl]; rfl

end Go.Proofs.YtcjbnonjhahakaaDoor.Pure
