/- Makers are the words that make the word, each once, in order; Shortest is their first one for 8 digits: for all words: no condition. -/
import Derived.Test.YtcjbnonjhahakaaDoorHandK
import Derived.Test.YtcjbnonjhahakaaDoorFit2
namespace Go.Proofs.YtcjbnonjhahakaaDoor.Pure
open Go.RowKit Go.Proofs.YtcjbnonjhahakaaDoor.Hand Go.Proofs.YtcjbnonjhahakaaDoor.Print Go.Proofs.YtcjbnonjhahakaaDoor.Math Go.Proofs.YtcjbnonjhahakaaDoorW.PrintWords Go.Proofs.YtcjbnonjhahakaaDoorW.PrintLast Go.Proofs.YtcjbnonjhahakaaDoorW.PrintMore
set_option linter.unusedVariables false
set_option linter.unusedSimpArgs false

open Go.Proofs.YtcjbnonjhahakaaDoor.Fir
theorem Make_is (s : ByteArray) : parrot_Make.f s = some (B (make (L s)).1, (make (L s)).2) := by
  unfold parrot_Make.f parrot_word.f make
  rw [Option.bind_some]
  by_cases h : wordE (L s) = 0
  · have hw := wordE_ok.1 h
    have hl := hw.1
    rw [L_length] at hl
    rw [if_pos h, if_neg (show ¬ (wordE (L s) ≠ 0) from fun hh => hh h)]
    unfold parrot_made.f
    rw [if_pos ⟨hw.2.1, by omega⟩, Option.bind_some]
  · rw [if_neg h, if_pos h]; rfl
theorem alive_true : pomadelaw08_alive.f = some true := by decide +kernel
theorem alive_b : (pomadelaw08_alive.f.bind fun t => some t) = some true := by rw [alive_true]; rfl
theorem Short_is (s : ByteArray) : parrot_Shortest.f s = some (shortS s) := by
  unfold parrot_Shortest.f parrot_Makers.f shortS
  by_cases c : wordE (L s) = 0
  · rw [if_neg (show ¬ wordE (L s) ≠ 0 by simpa using c), if_neg (by omega), if_neg (show ¬ wordE (L s) ≠ 0 by simpa using c), Option.bind_some]
    dsimp only
    rw [if_pos rfl, show (8 : Int).toNat = 8 from rfl]
    cases sortW (mkL 8 (L s)) with
    | nil => rw [if_pos (by rfl)]
    | cons x t => rw [if_neg (by simp; omega), if_pos (by simp)]; rfl
  · rw [if_pos c, if_pos c, Option.bind_some]
    dsimp only
    rw [if_neg c]
open Go.Proofs.YtcjbnonjhahakaaDoor.Fir Go.Proofs.YtcjbnonjhahakaaDoor.Fit Go.Sort
theorem rdO {xs : List ByteArray} {i : Nat} (h : i < xs.length) : rdOf ByteArray.empty xs (i : Int) = xs[i] := by
  unfold rdOf
  rw [Int.toNat_natCast, List.getD_eq_getElem?_getD, List.getElem?_eq_getElem h]; rfl
theorem toLs (s : ByteArray) : s.toList = L s := ByteArray.toList_eq s
theorem mem_mk {n : Nat} (hn : n ≤ 8) {x y : List UInt8} (hx : x ≠ [] ∧ x.all isDig = true ∧ x.length ≤ 200) (h : y ∈ mkL n x) : make y = (x, 0) ∧ 2 ≤ y.length ∧ y.length ≤ n ∧ y.all isDig = true ∧ says y = (x, 0) := by
  obtain ⟨h1, h2, h3, h4⟩ := mkL_says hx.1 hx.2.1 (by omega) h
  have hw : wordE y = 0 := wordE_ok.2 ⟨by omega, h3, fun e => by subst e; simp at h2⟩
  refine ⟨?_, h2, h1, h3, h4⟩
  unfold make
  rw [if_neg (fun hh => hh hw), h4]
theorem mk_mem {n : Nat} {x y : List UInt8} (hx : x ≠ []) (h : make y = (x, 0)) (hl : y.length ≤ n) : y ∈ mkL n x := by
  unfold make at h
  by_cases c : wordE y = 0
  · rw [if_neg (fun hh => hh c)] at h
    exact mkL_all hx (wordE_ok.1 c).2.1 hl h
  · rw [if_pos c] at h
    exact absurd ((Prod.mk.injEq _ _ _ _).mp h).2 c
def two (y : List UInt8) : Bool := y.head? == some 50
theorem two_none {c : UInt8} (hc : c ∈ five) (m : Nat) (x : List UInt8) : (gc c m x).countP two = 0 := by
  rw [List.countP_eq_zero]
  intro y hy
  obtain ⟨b, _, h⟩ := List.mem_flatMap.1 hy
  obtain ⟨z, _, rfl⟩ := List.mem_map.1 h
  unfold two
  rcases five_cases hc with rfl | rfl | rfl | rfl | rfl <;> simp
theorem two_count (n : Nat) (x : List UInt8) : (mkL n x).countP two = if x.length < n then 1 else 0 := by
  cases n with
  | zero => simp [mkL]
  | succ m =>
    rw [mkL_gc, List.countP_append, List.countP_append, List.countP_append, List.countP_append, List.countP_append, two_none (by decide), two_none (by decide), two_none (by decide), two_none (by decide), two_none (by decide)]
    by_cases h : x.length + 1 ≤ m + 1
    · rw [if_pos h, if_pos (by omega)]; simp [two]
    · rw [if_neg h, if_neg (by omega)]; simp
theorem sortW_mem {l : List (List UInt8)} {y : List UInt8} : y ∈ sortW l ↔ y ∈ l := (sortW_perm l).mem_iff
theorem shLt_len {a b : List UInt8} (h : shLt a b = true) : a.length < b.length ∨ (a.length = b.length ∧ Op.bytesLess a b = true) := by
  unfold shLt at h
  rcases of_decide_eq_true h with h | ⟨e, h⟩
  · exact .inl h
  · exact .inr ⟨e, by rw [bytesLess_eq]; exact decide_eq_true h⟩
theorem shLe_len {a b : List UInt8} (h : shLe a b = true) : a.length ≤ b.length := by
  unfold shLe at h
  have h : shLt b a = false := by simpa using h
  refine Nat.le_of_not_lt fun q => ?_
  unfold shLt at h
  exact of_decide_eq_false h (.inl q)
theorem sort_head {l : List (List UInt8)} {z : List UInt8} {t : List (List UInt8)} (h : sortW l = z :: t) : z ∈ l ∧ ∀ y ∈ l, shLe z y = true := by
  have hs := sortW_sorted l
  rw [h] at hs
  refine ⟨sortW_mem.1 (by rw [h]; simp), fun y hy => ?_⟩
  have := sortW_mem.2 hy
  rw [h] at this
  rcases List.mem_cons.1 this with rfl | h2
  · unfold shLe; rw [shLt_irrefl]; rfl
  · exact List.rel_of_pairwise_cons hs h2
/-- The first word of at most n digits is the first of all. -/
theorem first_same {n : Nat} (hn : n ≤ 8) {x z z8 : List UInt8} {t t8 : List (List UInt8)} (hx : x ≠ [] ∧ x.all isDig = true ∧ x.length ≤ 200) (h : sortW (mkL n x) = z :: t) (h8 : sortW (mkL 8 x) = z8 :: t8) : z8 = z := by
  have h1 := sort_head h
  have h2 := sort_head h8
  have m1 := mem_mk hn hx h1.1
  have m2 := mem_mk (Nat.le_refl 8) hx h2.1
  have hz8 : z ∈ mkL 8 x := mk_mem hx.1 m1.1 (by omega)
  have hle := h2.2 z hz8
  have hln := shLe_len hle
  have hz : z8 ∈ mkL n x := mk_mem hx.1 m2.1 (by omega)
  have hle2 := h1.2 z8 hz
  unfold shLe at hle hle2
  exact shLt_conn (by simpa using hle2) (by simpa using hle)
theorem short_some {x : List UInt8} {a0 : ByteArray} (ha : L a0 = x) (hw : wordE x = 0) {z : List UInt8} {t : List (List UInt8)} (h : sortW (mkL 8 x) = z :: t) : shortS a0 = (B z, 0) := by
  unfold shortS
  rw [ha, if_neg (fun hh => hh hw), h]
theorem short_none {x : List UInt8} {a0 : ByteArray} (ha : L a0 = x) (hw : wordE x = 0) (h : sortW (mkL 8 x) = []) : shortS a0 = (⟨#[]⟩, 10) := by
  unfold shortS
  rw [ha, if_neg (fun hh => hh hw), h]
theorem mn_nat (a b : Nat) : mn (a : Int) (b : Int) = ((min a b : Nat) : Int) := by unfold mn; split <;> omega
theorem found_j3 (a0 : ByteArray) (hw : wordE (L a0) = 0) (n : Nat) (hn : 1 ≤ n ∧ n ≤ 5) : Ev (fun k => pomadelaw08_ParrotFound.j3 k a0 (n : Int) ((sortW (mkL n (L a0))).map B) false) true := by
  obtain ⟨x, hx⟩ : ∃ x, L a0 = x := ⟨_, rfl⟩
  have hxs : a0.size = x.length := by rw [← hx, L_length]
  rw [hx] at hw ⊢
  have hok := wordE_ok.1 hw
  have hxx : x ≠ [] ∧ x.all isDig = true ∧ x.length ≤ 200 := ⟨hok.2.2, hok.2.1, hok.1⟩
  refine Ev.step (f := fun _ => some true) (fun k => ?_) (Ev.now _)
  simp only [pomadelaw08_ParrotFound.j3]
  rw [if_neg (by decide), Short_is, Option.bind_some]
  have hbase : x.length + 1 ≤ 8 → ∃ z t, sortW (mkL 8 x) = z :: t := fun h => by
    cases h8 : sortW (mkL 8 x) with
    | nil =>
      have : 50 :: x ∈ mkL 8 x := mem_mkL.2 (.inl ⟨h, rfl⟩)
      have := sortW_mem.2 this
      rw [h8] at this; cases this
    | cons z t => exact ⟨z, t, rfl⟩
  cases hW : sortW (mkL n x) with
  | cons z t =>
    have hz := sort_head hW
    have m1 := mem_mk (by omega) hxx hz.1
    obtain ⟨z8, t8, h8⟩ : ∃ z8 t8, sortW (mkL 8 x) = z8 :: t8 := by
      cases h8 : sortW (mkL 8 x) with
      | nil =>
        have : z ∈ mkL 8 x := mk_mem hxx.1 m1.1 (by omega)
        have := sortW_mem.2 this
        rw [h8] at this; cases this
      | cons z8 t8 => exact ⟨z8, t8, rfl⟩
    have he := first_same (by omega) hxx hW h8
    subst he
    rw [short_some hx hw h8]
    have e0 : rdOf ByteArray.empty (List.map B (z8 :: t)) 0 = B z8 := rfl
    rw [if_pos (by simp), if_pos rfl, if_pos (by simp), e0, if_pos rfl]
    exact alive_b
  | nil =>
    rw [if_neg (by simp)]
    cases h8 : sortW (mkL 8 x) with
    | cons z t =>
      rw [short_some hx hw h8]
      have hz := sort_head h8
      have m1 := mem_mk (Nat.le_refl 8) hxx hz.1
      have hzn : n < z.length := Nat.lt_of_not_le fun q => by
        have := sortW_mem.2 (mk_mem hxx.1 m1.1 q)
        rw [hW] at this; cases this
      have hzx : z.length ≤ x.length + 1 := by
        by_cases c : x.length + 1 ≤ 8
        · have := shLe_len (hz.2 (50 :: x) (mem_mkL.2 (.inl ⟨c, rfl⟩)))
          simpa using this
        · omega
      have e2 : mn 8 (wrap64 ((a0.size : Int) + 1)) = ((min 8 (x.length + 1) : Nat) : Int) := by
        rw [hxs, w64 (by omega), show (x.length : Int) + 1 = ((x.length + 1 : Nat) : Int) by omega]
        exact mn_nat 8 _
      rw [if_pos rfl, Make_is, Option.bind_some, L_B, m1.1, if_pos rfl, if_pos (by rw [toLs, toLs, L_B, hx]), if_pos (by rw [B_size]; omega), if_pos (by rw [B_size, e2]; omega)]
      exact alive_b
    | nil =>
      have h8l : 8 ≤ x.length := Nat.le_of_not_lt fun q => by
        obtain ⟨z, t, h⟩ := hbase (by omega)
        rw [h8] at h; cases h
      rw [short_none hx hw h8, if_neg (by decide), if_pos rfl, if_pos (by rw [toLs]; rfl), if_pos (by rw [hxs]; omega)]
      exact alive_b
theorem cnt_step (W : List (List UInt8)) (i : Nat) (y : List UInt8) (hgi : W[i]? = some y) (hy0 : 0 < y.length) (hl : W.length ≤ 1000000) :
    (((W.take (i + 1)).countP two : Nat) : Int) = if (((y[0]'hy0).toNat : Nat) : Int) = 50 then wrap64 ((((W.take i).countP two : Nat) : Int) + 1) else (((W.take i).countP two : Nat) : Int) := by
  have htk : W.take (i + 1) = W.take i ++ [y] := by rw [List.take_add_one, hgi]; rfl
  have hcle : (W.take i).countP two ≤ W.length := Nat.le_trans List.countP_le_length (by rw [List.length_take]; omega)
  rw [htk, List.countP_append]
  obtain ⟨q, hq⟩ : ∃ q, (W.take i).countP two = q := ⟨_, rfl⟩
  rw [hq] at hcle ⊢
  cases y with
  | nil => simp at hy0
  | cons a t =>
    show ((q + [a :: t].countP two : Nat) : Int) = if ((a.toNat : Nat) : Int) = 50 then _ else _
    by_cases e : a = 50
    · subst e
      have e1 : [(50 : UInt8) :: t].countP two = 1 := by simp [two]
      rw [e1, if_pos (by rfl), w64 (by omega)]; omega
    · have e1 : [a :: t].countP two = 0 := by simp [two, e]
      rw [e1, if_neg (show ¬ ((a.toNat : Nat) : Int) = 50 from fun h => e (UInt8.toNat_inj.1 (Int.ofNat.inj h)))]; omega
theorem in_step (W : List (List UInt8)) (i : Nat) (y l : List UInt8) (inn e : Bool) (hin : inn = true ↔ ∃ q, q < i ∧ W[q]? = some l) (hgi : W[i]? = some y) (hbt : e = true ↔ y = l) :
    (if inn = true then true else e) = true ↔ ∃ q, q < i + 1 ∧ W[q]? = some l := by
  by_cases c : inn = true
  · rw [if_pos c]
    refine ⟨fun _ => ?_, fun _ => rfl⟩
    obtain ⟨q, hq, hq2⟩ := hin.1 c
    exact ⟨q, by omega, hq2⟩
  · rw [if_neg c]
    refine ⟨fun h => ⟨i, by omega, by rw [hgi, hbt.1 h]⟩, fun ⟨q, hq, hq2⟩ => ?_⟩
    by_cases hqi : q = i
    · subst hqi
      rw [hgi] at hq2
      exact hbt.2 (Option.some.inj hq2)
    · exact absurd (hin.2 ⟨q, by omega, hq2⟩) c
theorem pred_w (i : Nat) (h : 0 < i) (hl : i ≤ 1000000) : wrap64 ((i : Int) - 1) = ((i - 1 : Nat) : Int) := by
  rw [w64 (by omega)]; omega
set_option maxHeartbeats 1000000 in
theorem ParrotFound : pomadelaw08_ParrotFound.Pure := by
  intro a0 a1 a2 w0 w1 w2
  refine Ev.rounds ?_
  have ha1 : 0 ≤ a1 ∧ a1 ≤ 255 := by
    have := w1
    simp [Lit.wf, IntKind.min, IntKind.max, IntKind.signed, IntKind.bits] at this
    omega
  obtain ⟨n, hn, hn1, hn5⟩ : ∃ n : Nat, wrap64 (1 + wrap64 (Int.tmod a1 5)) = (n : Int) ∧ 1 ≤ n ∧ n ≤ 5 := by
    refine ⟨(1 + a1 % 5).toNat, ?_, by omega, by omega⟩
    rw [Int.tmod_eq_emod_of_nonneg ha1.1, w64 (n := a1 % 5) (by omega), w64 (by omega)]
    omega
  have hT : Ev (fun k => pomadelaw08_ParrotFound.j0 k a0 a1 a2 true) true :=
    Ev.step (f := fun _ => some true) (fun k => by simp only [pomadelaw08_ParrotFound.j0, if_true]; exact alive_b) (Ev.now _)
  have hF : wordE (L a0) = 0 → Ev (fun k => pomadelaw08_ParrotFound.j0 k a0 a1 a2 false) true := by
    intro hw
    have hok := wordE_ok.1 hw
    have hxx : L a0 ≠ [] ∧ (L a0).all isDig = true ∧ (L a0).length ≤ 200 := ⟨hok.2.2, hok.2.1, hok.1⟩
    have h3 := found_j3 a0 hw n ⟨hn1, hn5⟩
    have hM : parrot_Makers.f a0 (n : Int) = some ((sortW (mkL n (L a0))).map B, 0) := by
      unfold parrot_Makers.f
      rw [if_neg (fun hh => hh hw), if_neg (by omega), Int.toNat_natCast]
    obtain ⟨W, hW⟩ : ∃ W, sortW (mkL n (L a0)) = W := ⟨_, rfl⟩
    have hstrict : W.Pairwise (fun a b => shLt a b = true) := by
      rw [← hW]
      exact sortW_strict (mkL_nodup n (L a0) hxx.1 hxx.2.1 (by omega))
    have hmem : ∀ y, y ∈ W ↔ y ∈ mkL n (L a0) := fun y => by rw [← hW]; exact sortW_mem
    have hlen : W.length ≤ 1000000 := by
      rw [← hW, (sortW_perm _).length_eq]
      have h1 := mkL_many n (L a0)
      have h2 : 14 ^ n ≤ 14 ^ 5 := Nat.pow_le_pow_right (by decide) hn5
      omega
    have hcount : W.countP two = if (L a0).length < n then 1 else 0 := by
      rw [← hW, (sortW_perm _).countP_eq]
      exact two_count n (L a0)
    rw [hW] at hM h3
    have hloop : ∀ (j i : Nat) (inn : Bool), i + j = W.length → (inn = true ↔ ∃ q, q < i ∧ W[q]? = some (L a2)) →
        Ev (fun k => pomadelaw08_ParrotFound.l0 k a0 a2 (n : Int) (W.map B) (B (make (L a2)).1) (make (L a2)).2 inn (((W.take i).countP two : Nat) : Int) (i : Int)) true := by
      intro j
      induction j with
      | zero =>
        intro i inn hi hin
        obtain rfl : i = W.length := by omega
        rw [List.take_length, hcount]
        have hcb : (((((if (L a0).length < n then 1 else 0 : Nat)) : Int) == 1) != (decide ((a0.size : Int) < (n : Int)))) = false := by
          rw [← L_length]
          by_cases c : (L a0).length < n
          · rw [if_pos c, decide_eq_true (by omega)]; rfl
          · rw [if_neg c, decide_eq_false (by omega)]; rfl
        have hin2 : (make (L a2)).2 = 0 → (make (L a2)).1 = L a0 → a2.size ≤ n → inn = true := fun e1 e2 e3 => by
          have : L a2 ∈ W := (hmem _).2 (mk_mem hxx.1 (Prod.ext e2 e1) (by rw [L_length]; exact e3))
          obtain ⟨q, hq, hq2⟩ := List.getElem_of_mem this
          exact hin.2 ⟨q, hq, by rw [List.getElem?_eq_getElem hq, hq2]⟩
        refine Ev.step (fun k => ?_) h3
        simp only [pomadelaw08_ParrotFound.l0]
        rw [if_neg (by rw [List.length_map]; omega), hcb]
        by_cases d1 : (make (L a2)).2 = 0
        · rw [if_pos d1]
          by_cases d2 : (make (L a2)).1 = L a0
          · rw [if_pos (by rw [toLs, toLs, L_B, d2])]
            by_cases d3 : (a2.size : Int) ≤ (n : Int)
            · rw [if_pos d3, if_pos (hin2 d1 d2 (by omega))]
            · rw [if_neg d3]
          · rw [if_neg (fun e => d2 (by rw [toLs, toLs, L_B] at e; exact e))]
        · rw [if_neg d1]
      | succ j ih =>
        intro i inn hi hin
        have hlt : i < W.length := by omega
        have hlt2 : i < (W.map B).length := by rw [List.length_map]; exact hlt
        obtain ⟨y, hy⟩ : ∃ y, W[i] = y := ⟨_, rfl⟩
        have hr : rdOf ByteArray.empty (W.map B) (i : Int) = B y := by rw [rdO hlt2, List.getElem_map, hy]
        have hym : y ∈ mkL n (L a0) := (hmem y).1 (hy ▸ List.getElem_mem hlt)
        have hyy := mem_mk (by omega) hxx hym
        have hup : wrap64 ((i : Int) + 1) = ((i + 1 : Nat) : Int) := by rw [w64 (by omega)]; omega
        have hgi : W[i]? = some y := by rw [List.getElem?_eq_getElem hlt, hy]
        have htk : W.take (i + 1) = W.take i ++ [y] := by rw [List.take_add_one, hgi]; rfl
        have hbt : ((B y).toList == a2.toList) = true ↔ y = L a2 := by rw [beq_iff_eq, toLs, toLs, L_B]
        have hin1 := in_step W i y (L a2) inn _ hin hgi hbt
        have hij : i + 1 + j = W.length := by omega
        have g1 : (0 : Int) ≤ (i : Int) := Int.natCast_nonneg i
        have g2 : (i : Int) < ((W.map B).length : Int) := Int.ofNat_lt.2 hlt2
        have hy0 : 0 < y.length := Nat.lt_of_lt_of_le (by decide) hyy.2.1
        have g3 : (0 : Int) < ((B y).size : Int) := by rw [B_size]; exact Int.ofNat_lt.2 hy0
        have hb0 : bt (B y) 0 = ((y[0]'hy0).toNat : Int) := bt_B y 0 hy0
        have hcnt := cnt_step W i y hgi hy0 hlen
        have hnext := ih (i + 1) (if inn = true then true else ((B y).toList == a2.toList)) hij hin1
        rw [hcnt] at hnext
        have hj2 : Ev (fun k => pomadelaw08_ParrotFound.j2 k a0 a2 (n : Int) (W.map B) (B (make (L a2)).1) (make (L a2)).2 inn (((W.take i).countP two : Nat) : Int) (i : Int) false) true := by
          refine Ev.step (fun k => ?_) hnext
          simp only [pomadelaw08_ParrotFound.j2]
          rw [if_neg (by decide), hr, hb0, hup]
          by_cases e : inn = true
          · rw [if_pos e, if_pos g1, if_pos g2, if_pos g3, if_pos e]
            by_cases e2 : (((y[0]'hy0).toNat : Nat) : Int) = 50
            · rw [if_pos e2, if_pos e2]
            · rw [if_neg e2, if_neg e2]
          · rw [if_neg e, if_pos g1, if_pos g2, if_pos g3, if_neg e]
            by_cases e2 : (((y[0]'hy0).toNat : Nat) : Int) = 50
            · rw [if_pos e2, if_pos e2]
            · rw [if_neg e2, if_neg e2]
        clear hnext hb0 hcnt hin1
        refine Ev.step (fun k => ?_) hj2
        simp only [pomadelaw08_ParrotFound.l0]
        rw [if_pos g2, if_pos g1, hr, Make_is, Option.bind_some, L_B, hyy.1]
        dsimp only
        rw [if_pos rfl, if_pos (by rw [toLs, toLs, L_B]), if_neg (by rw [B_size]; omega), if_neg (by rw [B_size]; omega)]
        by_cases hi0 : i = 0
        · subst hi0
          rw [if_neg (show ¬ ((0 : Nat) : Int) > 0 from by decide)]
        · have k1 : (i : Int) > 0 := Int.ofNat_lt.2 (Nat.pos_of_ne_zero hi0)
          have k0 : i - 1 < i := Nat.sub_lt (Nat.pos_of_ne_zero hi0) (by decide)
          have hlt3 : i - 1 < W.length := Nat.lt_trans k0 hlt
          have hd := pred_w i (Nat.pos_of_ne_zero hi0) (Nat.le_trans (Nat.le_of_lt hlt) hlen)
          have hlt4 : i - 1 < (W.map B).length := by rw [List.length_map]; exact hlt3
          have k2 : (0 : Int) ≤ ((i - 1 : Nat) : Int) := Int.natCast_nonneg _
          have k3 : ((i - 1 : Nat) : Int) < ((W.map B).length : Int) := Int.ofNat_lt.2 hlt4
          obtain ⟨z, hz⟩ : ∃ z, W[i - 1]'hlt3 = z := ⟨_, rfl⟩
          have hr2 : rdOf ByteArray.empty (W.map B) ((i - 1 : Nat) : Int) = B z := by rw [rdO hlt4, List.getElem_map, hz]
          have hsort := List.pairwise_iff_getElem.1 hstrict (i - 1) i hlt3 hlt k0
          rw [hy, hz] at hsort
          rw [if_pos k1, hd, if_pos k2, if_pos k3, hr2, B_size, B_size]
          rcases shLt_len hsort with hs | ⟨hs, hs2⟩
          · rw [if_neg (Int.not_lt.2 (Int.ofNat_le.2 (Nat.le_of_lt hs))), if_neg (show ¬ ((y.length : Nat) : Int) = ((z.length : Nat) : Int) from fun e => absurd (Int.ofNat.inj e) (Nat.ne_of_gt hs))]
          · rw [if_neg (Int.not_lt.2 (Int.ofNat_le.2 (Nat.le_of_eq hs))), if_pos (show ((y.length : Nat) : Int) = ((z.length : Nat) : Int) from congrArg Int.ofNat hs.symm), toLs, toLs, L_B, L_B, hs2]; rfl
    have h0 := hloop W.length 0 false (by omega) ⟨fun h => (by cases h), fun ⟨q, hq, _⟩ => absurd hq (Nat.not_lt_zero _)⟩
    refine Ev.step (fun k => ?_) h0
    simp only [pomadelaw08_ParrotFound.j0]
    rw [if_neg (by decide), hn, hM, Option.bind_some]
    dsimp only
    rw [if_pos rfl, Make_is, Option.bind_some]; rfl
  unfold pomadelaw08_ParrotFound.f
  by_cases c1 : (a0.size : Int) > 300
  · simp only [if_pos c1]; exact hT
  · simp only [if_neg c1]
    by_cases c2 : (a2.size : Int) > 300
    · simp only [if_pos c2]; exact hT
    · simp only [if_neg c2]
      refine Ev.bind (ev_IsWord a0) ?_
      by_cases c : wordE (L a0) = 0
      · rw [c]; exact hF c
      · rw [show (wordE (L a0) != 0) = true from bne_iff_ne.2 c]; exact hT

end Go.Proofs.YtcjbnonjhahakaaDoor.Pure
