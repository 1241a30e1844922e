/- What the reference's functions of words come to. -/
import Derived.Test.YtcjbnonjhahakaaDoorHandD
import Derived.Test.YtcjbnonjhahakaaDoorMathP
import Derived.Test.YtcjbnonjhahakaaDoorPrint6
import Derived.Test.YtcjbnonjhahakaaDoorPrint5
import Derived.Test.YtcjbnonjhahakaaDoorPrint3
import Derived.Test.YtcjbnonjhahakaaDoorPrint4
import Derived.Test.YtcjbnonjhahakaaDoorPrint1
namespace Go.Proofs.YtcjbnonjhahakaaDoor.Pure
open Go.RowKit Go.Proofs.YtcjbnonjhahakaaDoor.Hand Go.Proofs.YtcjbnonjhahakaaDoor.Print Go.Proofs.YtcjbnonjhahakaaDoor.Math Go.Proofs.YtcjbnonjhahakaaDoorW.PrintWords Go.Proofs.YtcjbnonjhahakaaDoorW.PrintLast Go.Proofs.YtcjbnonjhahakaaDoorW.PrintMore
set_option linter.unusedVariables false
set_option linter.unusedSimpArgs false

theorem w64 {n : Int} (h : -9223372036854775808 ≤ n ∧ n ≤ 9223372036854775807) : wrap64 n = n := by unfold wrap64; omega
theorem bt_nat (s : ByteArray) (i : Nat) (h : i < s.size) : bt s (i : Int) = ((s[i]'h).toNat : Int) := by simp [bt, h]
theorem isDig_iff (c : UInt8) : isDig c = true ↔ 49 ≤ c.toNat ∧ c.toNat ≤ 57 := by
  unfold isDig
  rw [decide_eq_true_eq, UInt8.le_iff_toNat_le, UInt8.le_iff_toNat_le]; rfl
theorem drop_all (s : ByteArray) : (L s).drop s.size = [] := List.drop_of_length_le (by rw [L_length]; exact Nat.le_refl _)
theorem ev_Digits_l (s : ByteArray) (hs : s.size ≤ 1000000) (d : Nat) : ∀ i, i + d = s.size → Ev (fun k => pomaderef08_Digits.l0 k s i) (if ((L s).drop i).all isDig = true then 0 else 5) := by
  induction d with
  | zero =>
    intro i hi
    obtain rfl : i = s.size := by omega
    rw [drop_all, if_pos (show ([] : List UInt8).all isDig = true from rfl)]
    refine Ev.step (f := fun _ => some 0) (fun k => ?_) (Ev.now _)
    simp only [pomaderef08_Digits.l0]
    rw [if_neg (by omega)]
  | succ d ih =>
    intro i hi
    have hlt : i < s.size := by omega
    have c1 : (i : Int) < (s.size : Int) := by omega
    have c2 : 0 ≤ (i : Int) := by omega
    have hb := bt_nat s i hlt
    have hup : wrap64 ((i : Int) + 1) = ((i + 1 : Nat) : Int) := by rw [w64 (by omega)]; omega
    rw [drop_at s i hlt, List.all_cons]
    obtain ⟨c, hc⟩ : ∃ c, s[i]'hlt = c := ⟨_, rfl⟩
    rw [hc] at hb ⊢
    by_cases hd : isDig c = true
    · have hn := (isDig_iff c).1 hd
      rw [hd, Bool.true_and]
      refine Ev.step (fun k => ?_) (ih (i + 1) (by omega))
      simp only [pomaderef08_Digits.l0]
      rw [if_pos c1, if_pos c2, hb, if_neg (by omega), if_neg (by omega), hup]
    · have hn : ¬ (49 ≤ c.toNat ∧ c.toNat ≤ 57) := fun h => hd ((isDig_iff c).2 h)
      rw [Bool.eq_false_iff.2 hd, Bool.false_and, if_neg (by decide)]
      refine Ev.step (f := fun _ => some 5) (fun k => ?_) (Ev.now _)
      simp only [pomaderef08_Digits.l0]
      rw [if_pos c1, if_pos c2, hb]
      by_cases h1 : (c.toNat : Int) < 49
      · rw [if_pos h1]
      · rw [if_neg h1, if_pos (by omega)]
theorem ev_Digits (s : ByteArray) : Ev (fun k => pomaderef08_Digits.f k s) (digE (L s)) := by
  unfold digE
  rw [L_length]
  by_cases h : s.size > 200
  · rw [if_pos h]
    refine Ev.congr (f := fun _ => some 3) (fun k => ?_) (Ev.now _)
    unfold pomaderef08_Digits.f
    rw [if_pos (by omega)]
  · rw [if_neg h]
    have := ev_Digits_l s (by omega) s.size 0 (by omega)
    rw [List.drop_zero] at this
    refine Ev.congr (fun k => ?_) this
    unfold pomaderef08_Digits.f
    rw [if_neg (by omega)]; rfl
theorem ev_IsWord (s : ByteArray) : Ev (fun k => pomaderef08_IsWord.f k s) (wordE (L s)) := by
  unfold pomaderef08_IsWord.f
  refine Ev.bind (ev_Digits s) ?_
  unfold wordE
  have hl : s.toList = L s := ByteArray.toList_eq s
  rw [hl]
  by_cases h : digE (L s) = 0
  · rw [if_neg (show ¬ (digE (L s) ≠ 0) from fun hh => hh h), if_pos h]
    by_cases h2 : L s = []
    · rw [if_pos h2, if_pos h2]; exact Ev.now _
    · rw [if_neg h2, if_neg h2, h]; exact Ev.now _
  · rw [if_pos h, if_neg h]; exact Ev.now _
/-! split -/
theorem take_step (s : ByteArray) (i : Nat) (h : i < s.size) : (L s).take (i + 1) = (L s).take i ++ [s[i]'h] := by rw [List.take_add_one, show (L s)[i]? = some (s[i]'h) from byte_at s i h]; rfl
/-! apply -/
theorem bytesOf_L (s : ByteArray) : bytesOf s = (L s).map fun b => (b.toNat : Int) := rfl
theorem ev_rev (o x : ByteArray) (hx : x.size ≤ 1000000) (i : Int) (v : ByteArray × Int) (hv : Ev (fun k => if ((B (L x).reverse).size : Int) > 100000 then some ((⟨#[]⟩ : ByteArray), (8 : Int)) else pomaderef08_apply.l0 k o (B (L x).reverse) (wrap64 (i - 1))) v) (d : Nat) :
    ∀ j, j + d = x.size → Ev (fun k => pomaderef08_apply.l1 k o x i (List.replicate d 0 ++ ((bytesOf x).take j).reverse) j) v := by
  induction d with
  | zero =>
    intro j hj
    obtain rfl : j = x.size := by omega
    have e : List.replicate 0 (0 : Int) ++ ((bytesOf x).take x.size).reverse = (L x).reverse.map fun b => (b.toNat : Int) := by
      rw [List.replicate_zero, List.nil_append, List.take_of_length_le (by rw [bytesOf_length]; exact Nat.le_refl _), bytesOf_L, List.map_reverse]
    rw [e]
    refine Ev.step (fun k => ?_) hv
    simp only [pomaderef08_apply.l1]
    rw [if_neg (by omega), strOfNums_B]
  | succ d ih =>
    intro j hj
    have hlt : j < x.size := by omega
    have c1 : (j : Int) < (x.size : Int) := by omega
    have c2 : 0 ≤ (j : Int) := by omega
    have e1 : wrap64 ((x.size : Int) - 1) = ((x.size - 1 : Nat) : Int) := by rw [w64 (by omega)]; omega
    have e2 : wrap64 (((x.size - 1 : Nat) : Int) - (j : Int)) = (d : Int) := by rw [w64 (by omega)]; omega
    have hup : wrap64 ((j : Int) + 1) = ((j + 1 : Nat) : Int) := by rw [w64 (by omega)]; omega
    have hb : (bytesOf x).take (j + 1) = (bytesOf x).take j ++ [bt x (j : Int)] := by
      have hl : j < (bytesOf x).length := by rw [bytesOf_length]; exact hlt
      rw [List.take_add_one, List.getElem?_eq_getElem hl]
      have : (bytesOf x)[j] = bt x (j : Int) := by rw [bt_nat x j hlt]; simp [bytesOf]; rfl
      rw [this]; rfl
    have e3 : (List.replicate (d + 1) (0 : Int) ++ ((bytesOf x).take j).reverse).set d (bt x (j : Int)) = List.replicate d 0 ++ ((bytesOf x).take (j + 1)).reverse := by
      rw [hb, List.reverse_append, List.reverse_singleton, List.replicate_succ', List.append_assoc, List.set_append_right _ _ (by simp)]
      simp
    have c3 : (d : Int) < ((List.replicate (d + 1) (0 : Int) ++ ((bytesOf x).take j).reverse).length : Int) := by simp; omega
    have c4 : 0 ≤ (d : Int) := by omega
    refine Ev.step (fun k => ?_) (ih (j + 1) (by omega))
    simp only [pomaderef08_apply.l1]
    rw [if_pos c1, if_pos c2, e1, e2, if_pos c4, if_pos c3, Int.toNat_natCast, e3, hup]
theorem ev_apply_l (o : ByteArray) (ho : (L o).all isOp = true) (hs : o.size ≤ 1000000) : ∀ (i : Nat), i ≤ o.size → ∀ x : ByteArray, 1 ≤ x.size → x.size ≤ 100000 → Ev (fun k => pomaderef08_apply.l0 k o x ((i : Int) - 1)) (B (applL ((L o).take i).reverse (L x)).1, (applL ((L o).take i).reverse (L x)).2) := by
  intro i
  induction i with
  | zero =>
    intro _ x h1 h2
    rw [List.take_zero, List.reverse_nil, applL, B_L]
    refine Ev.step (f := fun _ => some (x, 0)) (fun k => ?_) (Ev.now _)
    simp only [pomaderef08_apply.l0]
    rw [if_neg (by omega)]
  | succ i ih =>
    intro hi x h1 h2
    have hlt : i < o.size := by omega
    have ht := take_step o i hlt
    have hb := bt_nat o i hlt
    have hop : isOp (o[i]'hlt) = true := List.all_eq_true.1 ho _ (List.mem_of_getElem? (byte_at o i hlt))
    obtain ⟨c, hc⟩ : ∃ c, o[i]'hlt = c := ⟨_, rfl⟩
    rw [hc] at hb ht hop
    have hx6 : ((i + 1 : Nat) : Int) - 1 = (i : Int) := by omega
    have c1 : (i : Int) ≥ 0 := by omega
    have c2 : 0 ≤ (i : Int) := by omega
    have c3 : (i : Int) < (o.size : Int) := by omega
    have hdn : wrap64 ((i : Int) - 1) = (i : Int) - 1 := by rw [w64 (by omega)]
    rw [hx6, ht, List.reverse_append, List.reverse_singleton, List.singleton_append, applL, L_length]
    -- what is left behind this operation
    have hrest : ∀ y : ByteArray, y = B (app1 c (L x)) → ¬ long1 c x.size = 0 → Ev (fun k => if (y.size : Int) > 100000 then some ((⟨#[]⟩ : ByteArray), (8 : Int)) else pomaderef08_apply.l0 k o y ((i : Int) - 1))
        (B (if long1 c x.size > 100000 then (([] : List UInt8), (8 : Int)) else applL ((L o).take i).reverse (app1 c (L x))).1, (if long1 c x.size > 100000 then (([] : List UInt8), (8 : Int)) else applL ((L o).take i).reverse (app1 c (L x))).2) := by
      intro y hy hne
      have hsz : y.size = long1 c x.size := by rw [hy, B_size, app1_length, L_length]
      by_cases hbig : long1 c x.size > 100000
      · rw [if_pos hbig]
        refine Ev.congr (f := fun _ => some ((⟨#[]⟩ : ByteArray), (8 : Int))) (fun k => ?_) (Ev.now _)
        rw [if_pos (by omega)]
      · rw [if_neg hbig]
        have := ih (by omega) y (by omega) (by omega)
        rw [hy, L_B, ← hy] at this
        refine Ev.congr (fun k => ?_) this
        rw [if_neg (by omega)]
    rcases isOp_cases hop with rfl | rfl | rfl | rfl | rfl
    · have hl : long1 51 x.size = 2 * x.size + 1 := rfl
      have hne : ¬ long1 51 x.size = 0 := by omega
      rw [if_neg hne]
      have hy : x ++ ⟨#[50]⟩ ++ x = B (app1 51 (L x)) := B_of (by rw [L_append, L_append, List.append_assoc]; rfl)
      refine Ev.step (fun k => ?_) (hrest _ hy hne)
      have z1 : x.size + 1 ≤ 9223372036854775807 := by omega
      have z2 : (x ++ (⟨#[50]⟩ : ByteArray)).size + x.size ≤ 9223372036854775807 := by rw [ByteArray.size_append, sz1]; omega
      simp only [pomaderef08_apply.l0]
      rw [if_pos c1, if_pos c2, if_pos c3, hb, if_pos (by decide), if_pos z1, if_pos z2, hdn]
    · have hl : long1 52 x.size = x.size := rfl
      have hne : ¬ long1 52 x.size = 0 := by omega
      rw [if_neg hne]
      have hr := hrest (B (L x).reverse) rfl hne
      rw [← hdn] at hr
      have h3 := ev_rev o x (by omega) (i : Int) _ hr x.size 0 (by omega)
      rw [List.take_zero, List.reverse_nil, List.append_nil] at h3
      refine Ev.step (fun k => ?_) h3
      simp only [pomaderef08_apply.l0]
      rw [if_pos c1, if_pos c2, if_pos c3, hb, if_neg (by decide), if_pos (by decide), if_pos (by omega), Int.toNat_natCast, if_pos (by omega)]
      rfl
    · have hl : long1 53 x.size = 2 * x.size := rfl
      have hne : ¬ long1 53 x.size = 0 := by omega
      rw [if_neg hne]
      have hy : x ++ x = B (app1 53 (L x)) := B_of (by rw [L_append]; rfl)
      refine Ev.step (fun k => ?_) (hrest _ hy hne)
      simp only [pomaderef08_apply.l0]
      rw [if_pos c1, if_pos c2, if_pos c3, hb, if_neg (by decide), if_neg (by decide), if_pos (by decide), if_pos (by omega), hdn]
    · have hl : long1 54 x.size = x.size - 1 := rfl
      by_cases hne : long1 54 x.size = 0
      · rw [if_pos hne]
        refine Ev.step (f := fun _ => some ((⟨#[]⟩ : ByteArray), (10 : Int))) (fun k => ?_) (Ev.now _)
        simp only [pomaderef08_apply.l0]
        rw [if_pos c1, if_pos c2, if_pos c3, hb, if_neg (by decide), if_neg (by decide), if_neg (by decide), if_pos (by decide), if_pos (by omega)]
      · rw [if_neg hne]
        have hy : x.extract 1 x.size = B (app1 54 (L x)) := B_of (by rw [L_extract, List.take_of_length_le (by rw [L_length]; exact Nat.le_refl _), List.drop_one]; rfl)
        refine Ev.step (fun k => ?_) (hrest _ hy hne)
        simp only [pomaderef08_apply.l0]
        rw [if_pos c1, if_pos c2, if_pos c3, hb, if_neg (by decide), if_neg (by decide), if_neg (by decide), if_pos (by decide), if_neg (by omega), if_pos (by omega), hdn]
    · have hl : long1 55 x.size = x.size + 1 := rfl
      have hne : ¬ long1 55 x.size = 0 := by omega
      rw [if_neg hne]
      have hy : ⟨#[49]⟩ ++ x = B (app1 55 (L x)) := B_of (by rw [L_append]; rfl)
      refine Ev.step (fun k => ?_) (hrest _ hy hne)
      simp only [pomaderef08_apply.l0]
      rw [if_pos c1, if_pos c2, if_pos c3, hb, if_neg (by decide), if_neg (by decide), if_neg (by decide), if_neg (by decide), if_pos (by decide), if_pos (by omega), hdn]
theorem ev_apply (o x : ByteArray) (ho : (L o).all isOp = true) (hs : o.size ≤ 1000000) (h1 : 1 ≤ x.size) (h2 : x.size ≤ 100000) : Ev (fun k => pomaderef08_apply.f k o x) (B (applL (L o).reverse (L x)).1, (applL (L o).reverse (L x)).2) := by
  have := ev_apply_l o ho hs o.size (Nat.le_refl _) x h1 h2
  rw [List.take_of_length_le (by rw [L_length]; exact Nat.le_refl _)] at this
  refine Ev.congr (fun k => ?_) this
  unfold pomaderef08_apply.f
  rw [w64 (by omega)]

end Go.Proofs.YtcjbnonjhahakaaDoor.Pure
