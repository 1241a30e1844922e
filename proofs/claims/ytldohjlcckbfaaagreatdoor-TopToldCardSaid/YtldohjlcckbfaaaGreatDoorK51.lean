/- A part of the proof that pomadetop.TopTold returns true for every input: EvW, HandRc. No condition beyond those that each theorem states. -/
import Derived.Test.YtldohjlcckbfaaaGreatDoorK50
namespace Go.Proofs.YtldohjlcckbfaaaGreatDoor.Hand
open Go.RowKit Go.Proofs.YtldohjlcckbfaaaGreatDoorW.PrintWords Go.Proofs.YtldohjlcckbfaaaGreatDoorW.PrintLast Go.Proofs.YtldohjlcckbfaaaGreatDoorW.PrintMore
set_option linter.unusedVariables false
set_option linter.unusedSimpArgs false
open Go.Proofs.YtldohjlcckbfaaaGreatDoor.Print Go.Proofs.YtldohjlcckbfaaaGreatDoor.TopMath
def strB (l : List Bool) : ByteArray := ⟨(l.map fun b => if b = true then (40 : UInt8) else 41).toArray⟩
theorem strB_size (l : List Bool) : (strB l).size = l.length := by
  show ((l.map _).toArray).size = _
  simp
theorem strB_at (b : List Bool) (i : Nat) (hi : i < b.length) : bt (strB b) (i : Int) = if b[i] = true then 40 else 41 := by
  have h : (i : Int).toNat < (strB b).size := by rw [strB_size, Int.toNat_natCast]; exact hi
  unfold bt
  rw [dif_pos h]
  have e : (strB b)[(i : Int).toNat]'h = if b[i] = true then (40 : UInt8) else 41 := by
    show ((b.map fun b => if b = true then (40 : UInt8) else 41).toArray)[(i : Int).toNat]'_ = _
    simp
  rw [e]
  split <;> rfl
def ints (l : List Nat) : List Int := l.map fun (x : Nat) => (x : Int)
theorem ints_length (l : List Nat) : (ints l).length = l.length := by simp [ints]
theorem ints_get (l : List Nat) (i : Nat) : (ints l)[i]? = (l[i]?).map fun (x : Nat) => (x : Int) := by simp [ints]
theorem ints_set (l : List Nat) (i x : Nat) : ints (l.set i x) = (ints l).set i (x : Int) := by unfold ints; rw [List.map_set]
theorem ints_rd {l : List Nat} {i r : Nat} (h : l[i]? = some r) : rd (ints l) (i : Int) = (r : Int) := by
  unfold rd
  rw [Int.toNat_natCast, List.getD_eq_getElem?_getD, ints_get, h]; rfl
def partR : Option (List Nat) → List Int × Int
  | some a => (ints a, 0)
  | none => ([], 5)
theorem ev_partners (b : List Bool) (hb0 : b ≠ []) (hb : b.length ≤ 1000) : ∀ (t : List Bool) (i : Nat) (o out : List Nat), b.drop i = t → i + t.length = b.length → out.length = b.length → o.length ≤ i → (∀ q ∈ o, q < b.length) →
    Ev (fun k => plait_partners.l0 k (strB b) (ints out) (ints o.reverse) ((strB b).size : Int) (i : Int)) (partR (TopMath.part t i o out))
  | [], i, o, out, ht, hi, hout, hol, ho => by
    have hsz := strB_size b
    simp only [List.length_nil, Nat.add_zero] at hi
    have hne : ¬ (strB b).toList = ([] : List UInt8) := by
      intro h
      have h1 : (strB b).toList.length = b.length := by rw [ByteArray.toList_eq, Array.length_toList]; exact strB_size b
      rw [h] at h1
      cases b with
      | nil => exact hb0 rfl
      | cons _ _ => simp at h1
    refine Ev.step (f := fun _ => some (partR (TopMath.part [] i o out))) (fun k => ?_) (Ev.now _)
    simp only [plait_partners.l0]
    rw [if_neg (by omega), ints_length, List.length_reverse]
    cases o with
    | nil => rw [if_neg (by simp), if_neg hne]; rfl
    | cons q o => rw [if_pos (by rw [List.length_cons]; omega)]; rfl
  | true :: t, i, o, out, ht, hi, hout, hol, ho => by
    have hsz := strB_size b
    rw [List.length_cons] at hi
    have hlt : i < b.length := by omega
    have hbi : b[i] = true ∧ b.drop (i + 1) = t := by rw [List.drop_eq_getElem_cons hlt] at ht; exact ⟨(List.cons.inj ht).1, (List.cons.inj ht).2⟩
    have hv : bt (strB b) (i : Int) = 40 := by rw [strB_at b i hlt, if_pos hbi.1]
    have ih := ev_partners b hb0 hb t (i + 1) (i :: o) out hbi.2 (by omega) hout (by rw [List.length_cons]; omega) (fun q hq => (List.mem_cons.1 hq).elim (fun e => by omega) (ho q))
    refine Ev.step (fun k => ?_) ih
    simp only [plait_partners.l0]
    have e : ints (i :: o).reverse = ints o.reverse ++ [(i : Int)] := by simp [ints]
    rw [if_pos (by omega), if_pos (by omega), if_pos (by omega), hv, if_pos rfl, if_pos (by rw [ints_length, List.length_reverse]; omega), w64 (by omega), e]; rfl
  | false :: t, i, [], out, ht, hi, hout, hol, ho => by
    have hsz := strB_size b
    rw [List.length_cons] at hi
    have hlt : i < b.length := by omega
    have hbi : b[i] = false := by rw [List.drop_eq_getElem_cons hlt] at ht; exact (List.cons.inj ht).1
    have hv : bt (strB b) (i : Int) = 41 := by rw [strB_at b i hlt, if_neg (by rw [hbi]; decide)]
    refine Ev.step (f := fun _ => some ([], 5)) (fun k => ?_) (Ev.now _)
    simp only [plait_partners.l0]
    rw [if_pos (by omega), if_pos (by omega), if_pos (by omega), hv, if_neg (by decide), if_pos rfl, if_neg (by simp [ints])]
  | false :: t, i, q :: o, out, ht, hi, hout, hol, ho => by
    have hsz := strB_size b
    rw [List.length_cons] at hi
    rw [List.length_cons] at hol
    have hlt : i < b.length := by omega
    have hbi : b[i] = false ∧ b.drop (i + 1) = t := by rw [List.drop_eq_getElem_cons hlt] at ht; exact ⟨(List.cons.inj ht).1, (List.cons.inj ht).2⟩
    have hq := ho q (by simp)
    have ih := ev_partners b hb0 hb t (i + 1) o ((out.set i q).set q i) hbi.2 (by omega) (by rw [List.length_set, List.length_set]; exact hout) (by omega) (fun p hp => ho p (List.mem_cons_of_mem _ hp))
    refine Ev.step (fun k => ?_) ih
    have hv : bt (strB b) (i : Int) = 41 := by rw [strB_at b i hlt, if_neg (by rw [hbi.1]; decide)]
    have e : ints (q :: o).reverse = ints o.reverse ++ [(q : Int)] := by simp [ints]
    have el : (ints o.reverse ++ [(q : Int)]).length = o.length + 1 := by rw [List.length_append, ints_length, List.length_reverse]; rfl
    have ew : wrap64 (((o.length + 1 : Nat) : Int) - 1) = (o.length : Int) := by rw [w64 (by omega)]; omega
    have er : rd (ints o.reverse ++ [(q : Int)]) (o.length : Int) = (q : Int) := by
      unfold rd
      rw [Int.toNat_natCast, List.getD_eq_getElem?_getD, List.getElem?_append_right (by rw [ints_length, List.length_reverse]; exact Nat.le_refl _), ints_length, List.length_reverse, Nat.sub_self]; rfl
    have et : (ints o.reverse ++ [(q : Int)]).take o.length = ints o.reverse := by rw [List.take_append_of_le_length (by rw [ints_length, List.length_reverse]; exact Nat.le_refl _), List.take_of_length_le (by rw [ints_length, List.length_reverse]; exact Nat.le_refl _)]
    simp only [plait_partners.l0]
    rw [if_pos (by omega), if_pos (by omega), if_pos (by omega), hv, if_neg (by decide), if_pos rfl, e, el, ew, er, if_pos (by omega), if_pos (by omega), if_pos (by omega), if_pos (by omega), ints_length, hout, if_pos (by omega), if_pos (by omega), if_pos (by omega)]
    rw [Int.toNat_natCast, Int.toNat_natCast, Int.toNat_natCast, et, w64 (by omega), ints_set, ints_set]; rfl
theorem ev_partnersF (b : List Bool) (hb0 : b ≠ []) (hb : b.length ≤ 24) : Ev (fun k => plait_partners.f k (strB b)) (partR (TopMath.part b 0 [] (List.replicate b.length 0))) := by
  have h := ev_partners b hb0 (by omega) b 0 [] (List.replicate b.length 0) rfl (by omega) (by simp) (Nat.le_refl _) (fun q h => by simp at h)
  refine Ev.congr (fun k => ?_) h
  have hsz := strB_size b
  unfold plait_partners.f
  rw [if_neg (by omega), if_pos (by omega), if_pos (by rw [Int.toNat_natCast]; omega), Int.toNat_natCast, hsz]
  have e : ints (List.replicate b.length 0) = List.replicate b.length 0 := by simp [ints]
  rw [e]; rfl
theorem ev_bad (s : ByteArray) (hs : s.size ≤ 1000) (p : Nat) (hp : p < s.size) (hb : bt s (p : Int) ≠ 40 ∧ bt s (p : Int) ≠ 41) : ∀ (d i : Nat) (o out : List Nat), i + d = p → out.length = s.size → o.length ≤ i → (∀ q ∈ o, q < s.size) →
    Ev (fun k => plait_partners.l0 k s (ints out) (ints o.reverse) (s.size : Int) (i : Int)) ([], 5)
  | 0, i, o, out, hi, hout, hol, ho => by
    obtain rfl : i = p := by omega
    refine Ev.step (f := fun _ => some ([], 5)) (fun k => ?_) (Ev.now _)
    simp only [plait_partners.l0]
    rw [if_pos (by omega), if_pos (by omega), if_pos (by omega), if_neg hb.1, if_neg hb.2]
  | d + 1, i, o, out, hi, hout, hol, ho => by
    by_cases h40 : bt s (i : Int) = 40
    · have ih := ev_bad s hs p hp hb d (i + 1) (i :: o) out (by omega) hout (by rw [List.length_cons]; omega) (fun q hq => (List.mem_cons.1 hq).elim (fun e => by omega) (ho q))
      refine Ev.step (fun k => ?_) ih
      simp only [plait_partners.l0]
      have e : ints (i :: o).reverse = ints o.reverse ++ [(i : Int)] := by simp [ints]
      rw [if_pos (by omega), if_pos (by omega), if_pos (by omega), if_pos h40, if_pos (by rw [ints_length, List.length_reverse]; omega), w64 (by omega), e]; rfl
    · by_cases h41 : bt s (i : Int) = 41
      · cases o with
        | nil =>
          refine Ev.step (f := fun _ => some ([], 5)) (fun k => ?_) (Ev.now _)
          simp only [plait_partners.l0]
          rw [if_pos (by omega), if_pos (by omega), if_pos (by omega), if_neg h40, if_pos h41, if_neg (by simp [ints])]
        | cons q o =>
          rw [List.length_cons] at hol
          have hq := ho q (by simp)
          have ih := ev_bad s hs p hp hb d (i + 1) o ((out.set i q).set q i) (by omega) (by rw [List.length_set, List.length_set]; exact hout) (by omega) (fun x hx => ho x (List.mem_cons_of_mem _ hx))
          refine Ev.step (fun k => ?_) ih
          have e : ints (q :: o).reverse = ints o.reverse ++ [(q : Int)] := by simp [ints]
          have el : (ints o.reverse ++ [(q : Int)]).length = o.length + 1 := by rw [List.length_append, ints_length, List.length_reverse]; rfl
          have ew : wrap64 (((o.length + 1 : Nat) : Int) - 1) = (o.length : Int) := by rw [w64 (by omega)]; omega
          have er : rd (ints o.reverse ++ [(q : Int)]) (o.length : Int) = (q : Int) := by
            unfold rd
            rw [Int.toNat_natCast, List.getD_eq_getElem?_getD, List.getElem?_append_right (by rw [ints_length, List.length_reverse]; exact Nat.le_refl _), ints_length, List.length_reverse, Nat.sub_self]; rfl
          have et : (ints o.reverse ++ [(q : Int)]).take o.length = ints o.reverse := by rw [List.take_append_of_le_length (by rw [ints_length, List.length_reverse]; exact Nat.le_refl _), List.take_of_length_le (by rw [ints_length, List.length_reverse]; exact Nat.le_refl _)]
          simp only [plait_partners.l0]
          rw [if_pos (by omega), if_pos (by omega), if_pos (by omega), if_neg h40, if_pos h41, e, el, ew, er, if_pos (by omega), if_pos (by omega), if_pos (by omega), if_pos (by omega), ints_length, hout, if_pos (by omega), if_pos (by omega), if_pos (by omega)]
          rw [Int.toNat_natCast, Int.toNat_natCast, Int.toNat_natCast, et, w64 (by omega), ints_set, ints_set]; rfl
      · refine Ev.step (f := fun _ => some ([], 5)) (fun k => ?_) (Ev.now _)
        simp only [plait_partners.l0]
        rw [if_pos (by omega), if_pos (by omega), if_pos (by omega), if_neg h40, if_neg h41]
def PartsTo (s : ByteArray) (r : List Int × Int) : Prop := Ev (fun k => plait_partners.f k s) r ∧ ((r.2 = 0 ∧ ∃ a : List Nat, r.1 = ints a ∧ Pairs a ∧ a.length = s.size ∧ a.length ≤ 24) ∨ (r.2 = 5 ∨ r.2 = 3))
theorem bytes_bools {s : ByteArray} (h : ∀ p : Nat, p < s.size → bt s (p : Int) = 40 ∨ bt s (p : Int) = 41) : s = strB (s.data.toList.map fun b => decide (b = 40)) := by
  unfold strB
  rw [List.map_map]
  have e : s.data.toList.map ((fun b => if b = true then (40 : UInt8) else 41) ∘ fun b => decide (b = 40)) = s.data.toList := by
    refine (List.map_congr_left fun x hx => ?_).trans (List.map_id _)
    obtain ⟨p, hp, rfl⟩ := List.getElem_of_mem hx
    have hps : p < s.size := by simpa using hp
    have hv : bt s (p : Int) = ((s.data.toList[p]).toNat : Int) := by
      unfold bt
      rw [dif_pos (by rw [Int.toNat_natCast]; exact hps)]
      show ((s.data[(p : Int).toNat]'_).toNat : Int) = _
      simp
    have := h p hps
    rw [hv] at this
    show (if decide (s.data.toList[p] = 40) = true then (40 : UInt8) else 41) = id (s.data.toList[p])
    by_cases c : s.data.toList[p] = 40
    · rw [if_pos (decide_eq_true c), c]; rfl
    · rw [if_neg (fun q => c (of_decide_eq_true q))]
      have h41 : s.data.toList[p] = 41 := by
        rcases this with t | t
        · exact absurd (UInt8.toNat_inj.1 (by simpa using Int.ofNat.inj t)) c
        · exact UInt8.toNat_inj.1 (by simpa using Int.ofNat.inj t)
      rw [h41]; rfl
  rw [e]
theorem parts_any (s : ByteArray) : ∃ r, PartsTo s r := by
  by_cases hs : s.size > 24
  · refine ⟨([], 3), Ev.congr (fun k => ?_) (Ev.now _), .inr (.inr rfl)⟩
    unfold plait_partners.f
    rw [if_pos (by omega)]
  · have e0 : ∀ k, plait_partners.f k s = plait_partners.l0 k s (ints (List.replicate s.size 0)) (ints ([] : List Nat).reverse) (s.size : Int) ((0 : Nat) : Int) := fun k => by
      unfold plait_partners.f
      rw [if_neg (by omega), if_pos (by omega), if_pos (by rw [Int.toNat_natCast]; omega), Int.toNat_natCast]
      have e : ints (List.replicate s.size 0) = List.replicate s.size 0 := by simp [ints]
      rw [e]; rfl
    by_cases hb : ∀ p : Nat, p < s.size → bt s (p : Int) = 40 ∨ bt s (p : Int) = 41
    · by_cases hz : s.size = 0
      · refine ⟨([], 5), Ev.congr e0 (Ev.step (f := fun _ => some ([], 5)) (fun k => ?_) (Ev.now _)), .inr (.inl rfl)⟩
        have hn : s.toList = ([] : List UInt8) := by
          rw [ByteArray.toList_eq]
          exact List.eq_nil_of_length_eq_zero (by rw [Array.length_toList]; exact hz)
        simp only [plait_partners.l0]
        rw [if_neg (by omega), if_neg (by simp [ints]), if_pos hn]
      · have hsb := bytes_bools hb
        obtain ⟨b, hbd⟩ : ∃ b, s.data.toList.map (fun b => decide (b = 40)) = b := ⟨_, rfl⟩
        rw [hbd] at hsb
        have hbl : b.length = s.size := by rw [hsb, strB_size]
        have hp := ev_partnersF b (by intro h; rw [h] at hbl; simp at hbl; omega) (by omega)
        have hst := part_start b
        rw [← hsb] at hp
        by_cases hsc : scan 0 b = some 0
        · obtain ⟨a, h1, h2, h3⟩ := hst.1 hsc
          rw [h1] at hp
          exact ⟨(ints a, 0), hp, .inl ⟨rfl, a, rfl, h3, by omega, by omega⟩⟩
        · rw [hst.2 hsc] at hp
          exact ⟨([], 5), hp, .inr (.inl rfl)⟩
    · obtain ⟨p, hp, hpb⟩ : ∃ p : Nat, p < s.size ∧ (bt s (p : Int) ≠ 40 ∧ bt s (p : Int) ≠ 41) := by
        refine Classical.byContradiction fun h => hb fun p hp => ?_
        refine Classical.byContradiction fun h2 => h ⟨p, hp, fun e => h2 (.inl e), fun e => h2 (.inr e)⟩
      exact ⟨([], 5), Ev.congr e0 (ev_bad s (by omega) p hp hpb p 0 [] _ (by omega) (by simp) (Nat.le_refl _) (fun q h => by simp at h)), .inr (.inl rfl)⟩
def unseen (s : List Bool) : Nat := s.countP (fun b => !b)
theorem unseen_set {s : List Bool} {i : Nat} (h : s[i]? = some false) : unseen (s.set i true) + 1 = unseen s := by
  unfold unseen
  induction s generalizing i with
  | nil => simp at h
  | cons b s ih =>
    cases i with
    | zero =>
      have : b = false := by simpa using h
      subst this
      simp
    | succ i =>
      have h' : s[i]? = some false := by simpa using h
      have := ih h'
      rw [List.set_cons_succ, List.countP_cons, List.countP_cons]
      omega
theorem unseen_le {s : List Bool} {i : Nat} : unseen (s.set i true) ≤ unseen s := by
  by_cases h : i < s.length
  · have hg : s[i]? = some s[i] := List.getElem?_eq_getElem h
    cases hb : s[i] with
    | false => rw [hb] at hg; have := unseen_set hg; omega
    | true =>
      have : s.set i true = s := by
        apply List.ext_getElem?
        intro j
        by_cases e : i = j
        · subst e; rw [List.getElem?_set_self h, hg, hb]
        · rw [List.getElem?_set_ne e]
      rw [this]; exact Nat.le_refl _
  · rw [List.set_eq_of_length_le (by omega)]; exact Nat.le_refl _
theorem roads_run {a b : List Nat} (ha : Pairs a) (hb : Pairs b) (hab : a.length = b.length) (hl : a.length ≤ 24) : ∀ (u d i : Nat) (s : List Bool) (m : Nat), i + d = a.length → s.length = a.length → unseen s = u → m ≤ i →
    ∃ r : Nat, r ≤ 24 ∧ Ev (fun k => plait_roads.l0 k (ints a) (ints b) s (m : Int) (a.length : Int) (i : Int)) (r : Int) := by
  intro u
  induction u using Nat.strongRecOn with
  | _ u ihu =>
    intro d
    induction d with
    | zero =>
      intro i s m hi hs hu hm
      refine ⟨m, by omega, Ev.step (f := fun _ => some (m : Int)) (fun k => ?_) (Ev.now _)⟩
      simp only [plait_roads.l0]
      rw [if_neg (by omega)]
    | succ d ihd =>
      intro i s m hi hs hu hm
      have hlt : i < a.length := by omega
      have hsg : s[i]? = some s[i] := List.getElem?_eq_getElem (by omega)
      have hwi : wrap64 ((i : Int) + 1) = ((i + 1 : Nat) : Int) := by rw [w64 (by omega)]; omega
      cases hbv : s[i] with
      | true =>
        rw [hbv] at hsg
        obtain ⟨r, hr, he⟩ := ihd (i + 1) s m (by omega) hs hu (by omega)
        refine ⟨r, hr, Ev.step (fun k => ?_) he⟩
        simp only [plait_roads.l0]
        rw [if_pos (by omega), if_pos (by omega), if_pos (by omega), rdb_get hsg, if_pos rfl, hwi]
      | false =>
        rw [hbv] at hsg
        have hwm : wrap64 ((m : Int) + 1) = ((m + 1 : Nat) : Int) := by rw [w64 (by omega)]; omega
        -- the inner search, from any place on
        have inner : ∀ (v : Nat) (t : List Bool) (x : Nat), unseen t = v → t.length = a.length → x < a.length → (v < u ∨ (t[x]? = some false ∧ v ≤ u)) →
            ∃ r : Nat, r ≤ 24 ∧ Ev (fun k => plait_roads.l1 k (ints a) (ints b) t ((m + 1 : Nat) : Int) (x : Int) (a.length : Int) (i : Int)) (r : Int) := by
          intro v
          induction v using Nat.strongRecOn with
          | _ v ihv =>
            intro t x hv ht hx hcase
            have htg : t[x]? = some t[x] := List.getElem?_eq_getElem (by omega)
            cases hbx : t[x] with
            | true =>
              rw [hbx] at htg
              have hvu : v < u := by
                rcases hcase with c | c
                · exact c
                · rw [htg] at c; exact absurd (Option.some.inj c.1) (by decide)
              obtain ⟨r, hr, he⟩ := ihu v hvu d (i + 1) t (m + 1) (by omega) ht hv (by omega)
              refine ⟨r, hr, Ev.step (fun k => ?_) he⟩
              simp only [plait_roads.l1]
              rw [if_pos (by omega), if_pos (by omega), rdb_get htg, if_pos rfl, hwi]
            | false =>
              rw [hbx] at htg
              obtain ⟨y, y1, y2, y3, y4⟩ := ha x hx
              obtain ⟨z, z1, z2, _, _⟩ := hb y (by omega)
              have hun := unseen_set htg
              have hun2 := unseen_le (s := t.set x true) (i := y)
              have hvu : v ≤ u := by rcases hcase with c | c <;> omega
              obtain ⟨r, hr, he⟩ := ihv (unseen ((t.set x true).set y true)) (by omega) ((t.set x true).set y true) z rfl (by rw [List.length_set, List.length_set]; exact ht) (by omega) (.inl (by omega))
              refine ⟨r, hr, Ev.step (fun k => ?_) he⟩
              simp only [plait_roads.l1]
              rw [if_pos (by omega), if_pos (by omega), rdb_get htg, if_neg (by decide), ints_rd y1, ints_rd z1, ints_length, ints_length, if_pos (by omega), if_pos (by omega), if_pos (by omega), if_pos (by omega), Int.toNat_natCast, Int.toNat_natCast]
        obtain ⟨r, hr, he⟩ := inner u s i hu hs hlt (.inr ⟨hsg, Nat.le_refl _⟩)
        refine ⟨r, hr, Ev.step (fun k => ?_) he⟩
        simp only [plait_roads.l0]
        rw [if_pos (by omega), if_pos (by omega), if_pos (by omega), rdb_get hsg, if_neg (by decide), hwm]
theorem roads_any (u l : ByteArray) : ∃ r e : Int, Ev (fun k => plait_Roads.f k u l) (r, e) ∧ 0 ≤ r ∧ r ≤ 24 ∧ 0 ≤ e ∧ e ≤ 10 := by
  obtain ⟨p, hp, hp2⟩ := parts_any u
  obtain ⟨q, hq, hq2⟩ := parts_any l
  have e0 : ∀ k, plait_Roads.f k u l = (plait_partners.f k u).bind fun bt141 => (if bt141.2 = 0 then ((plait_partners.f k l).bind fun bt145 => (if bt145.2 = 0 then (if (bt141.1.length : Int) = (bt145.1.length : Int) then ((plait_roads.f k bt141.1 bt145.1).bind fun t149 => (some (t149, 0))) else (some (0, 2))) else (some (0, bt145.2)))) else (some (0, bt141.2))) := fun k => by unfold plait_Roads.f; rfl
  rcases hp2 with ⟨h0, a, ha1, ha2, ha3, ha4⟩ | h5
  · rcases hq2 with ⟨g0, b, hb1, hb2, hb3, hb4⟩ | g5
    · by_cases hlen : a.length = b.length
      · obtain ⟨r, hr, he⟩ := roads_run ha2 hb2 hlen ha4 (unseen (List.replicate a.length false)) a.length 0 (List.replicate a.length false) 0 (by omega) (by simp) rfl (Nat.le_refl _)
        have hr2 : Ev (fun k => plait_roads.f k (ints a) (ints b)) (r : Int) := by
          refine Ev.congr (fun k => ?_) he
          unfold plait_roads.f
          rw [ints_length, if_pos (by omega), if_pos (by rw [Int.toNat_natCast]; omega), Int.toNat_natCast]; rfl
        refine ⟨r, 0, Ev.congr e0 (Ev.bind (f := fun k bt141 => if bt141.2 = 0 then ((plait_partners.f k l).bind fun bt145 => (if bt145.2 = 0 then (if (bt141.1.length : Int) = (bt145.1.length : Int) then ((plait_roads.f k bt141.1 bt145.1).bind fun t149 => (some (t149, 0))) else (some (0, 2))) else (some (0, bt145.2)))) else (some (0, bt141.2))) hp ?_), by omega, by omega, by omega, by omega⟩
        simp only [h0, if_true, ha1]
        refine Ev.bind (f := fun k bt145 => (if bt145.2 = 0 then (if ((ints a).length : Int) = (bt145.1.length : Int) then ((plait_roads.f k (ints a) bt145.1).bind fun t149 => (some (t149, (0 : Int)))) else (some (0, 2))) else (some (0, bt145.2)))) hq ?_
        simp only [g0, if_true, hb1]
        have hl2 : ((ints a).length : Int) = ((ints b).length : Int) := by rw [ints_length, ints_length, hlen]
        simp only [hl2, if_true]
        exact Ev.bind (f := fun _ t149 => some (t149, (0 : Int))) hr2 (Ev.now _)
      · refine ⟨0, 2, Ev.congr e0 (Ev.bind (f := fun k bt141 => if bt141.2 = 0 then ((plait_partners.f k l).bind fun bt145 => (if bt145.2 = 0 then (if (bt141.1.length : Int) = (bt145.1.length : Int) then ((plait_roads.f k bt141.1 bt145.1).bind fun t149 => (some (t149, 0))) else (some (0, 2))) else (some (0, bt145.2)))) else (some (0, bt141.2))) hp ?_), by omega, by omega, by omega, by omega⟩
        simp only [h0, if_true, ha1]
        refine Ev.bind (f := fun k bt145 => (if bt145.2 = 0 then (if ((ints a).length : Int) = (bt145.1.length : Int) then ((plait_roads.f k (ints a) bt145.1).bind fun t149 => (some (t149, (0 : Int)))) else (some (0, 2))) else (some (0, bt145.2)))) hq ?_
        simp only [g0, if_true, hb1]
        have hl2 : ¬ ((ints a).length : Int) = ((ints b).length : Int) := by rw [ints_length, ints_length]; omega
        simp only [hl2, if_false]
        exact Ev.now _
    · refine ⟨0, q.2, Ev.congr e0 (Ev.bind (f := fun k bt141 => if bt141.2 = 0 then ((plait_partners.f k l).bind fun bt145 => (if bt145.2 = 0 then (if (bt141.1.length : Int) = (bt145.1.length : Int) then ((plait_roads.f k bt141.1 bt145.1).bind fun t149 => (some (t149, 0))) else (some (0, 2))) else (some (0, bt145.2)))) else (some (0, bt141.2))) hp ?_), by omega, by omega, by omega, by omega⟩
      simp only [h0, if_true, ha1]
      refine Ev.bind (f := fun k bt145 => (if bt145.2 = 0 then (if ((ints a).length : Int) = (bt145.1.length : Int) then ((plait_roads.f k (ints a) bt145.1).bind fun t149 => (some (t149, (0 : Int)))) else (some (0, 2))) else (some (0, bt145.2)))) hq ?_
      have hq0 : ¬ q.2 = 0 := by omega
      simp only [hq0, if_false]
      exact Ev.now _
  · refine ⟨0, p.2, Ev.congr e0 (Ev.bind (f := fun k bt141 => if bt141.2 = 0 then ((plait_partners.f k l).bind fun bt145 => (if bt145.2 = 0 then (if (bt141.1.length : Int) = (bt145.1.length : Int) then ((plait_roads.f k bt141.1 bt145.1).bind fun t149 => (some (t149, 0))) else (some (0, 2))) else (some (0, bt145.2)))) else (some (0, bt141.2))) hp ?_), by omega, by omega, by omega, by omega⟩
    have hp0 : ¬ p.2 = 0 := by omega
    simp only [hp0, if_false]
    exact Ev.now _
end Go.Proofs.YtldohjlcckbfaaaGreatDoor.Hand
namespace Go.Proofs.YtldohjlcckbfaaaGreatDoor.Hand
open Go.RowKit Go.Proofs.YtldohjlcckbfaaaGreatDoorW.PrintWords Go.Proofs.YtldohjlcckbfaaaGreatDoorW.PrintLast Go.Proofs.YtldohjlcckbfaaaGreatDoorW.PrintMore
set_option linter.unusedVariables false
set_option linter.unusedSimpArgs false
open Go.ChangeAt Go.WideShapes
theorem roads_calls (u l : ByteArray) : ∃ r e : Int, (∀ W, Calls Tryz.prog 15 #[.string u, .string l] W fun e' W' => e' = .returned (.tuple #[.int .i64 r, .int .i64 e]) ∧ Below W.heap.size W W') ∧ 0 ≤ r ∧ r ≤ 24 ∧ 0 ≤ e ∧ e ≤ 10 := by
  obtain ⟨r, e, he, h1, h2, h3, h4⟩ := roads_any u l
  obtain ⟨k, hk⟩ := he
  exact ⟨r, e, fun W => Print.plait_Roads.calls k u l r e W (hk k (Nat.le_refl _)), h1, h2, h3, h4⟩
set_option maxRecDepth 100000 in
theorem open_told {H : Type} {enc : TypeId × Value → H} {W : World} {base : Nat} {sp : Nat → Bool} {held : Bool} {v : Value} {d : DataW H} {ps : List MemPlace} (hval : Value.okWide Tryz.prog W .any base 31 v) (hd : DataW.Trod enc Tryz.prog W 0 sp held 31 v d ps) :
    ∃ (a b c : ByteArray) (n s : Int), v = .agg #[.string a, .string b, .string c, .int .i64 n, .int .u8 s] ∧ 0 ≤ s ∧ s ≤ 255 := by
  obtain ⟨cs, rfl, hsz⟩ := okWide_struct Tryz.underlying31 hval
  rw [show Tryz.prog.cellsOf 31 = 5 by kernel_rfl] at hsz
  obtain ⟨fuel, hf⟩ := hd
  obtain ⟨xs, m, _, _, _, hlen, hi⟩ := DataW.trod_struct Tryz.underlying31 hf
  obtain ⟨l⟩ := cs
  obtain ⟨v0, v1, v2, v3, v4, rfl⟩ : ∃ v0 v1 v2 v3 v4, l = [v0, v1, v2, v3, v4] := by
    match l, hsz with
    | [v0, v1, v2, v3, v4], _ => exact ⟨v0, v1, v2, v3, v4, rfl⟩
  obtain ⟨x0, x1, x2, x3, x4, rfl⟩ : ∃ x0 x1 x2 x3 x4, xs = [x0, x1, x2, x3, x4] := by
    match xs, hlen with
    | [x0, x1, x2, x3, x4], _ => exact ⟨x0, x1, x2, x3, x4, rfl⟩
  have c9 : Tryz.prog.cellsOf 9 = 1 := by kernel_rfl
  have c3 : Tryz.prog.cellsOf 3 = 1 := by kernel_rfl
  have c5 : Tryz.prog.cellsOf 5 = 1 := by kernel_rfl
  have e0 := hi 0 _ rfl
  have e1 := hi 1 _ rfl
  have e2 := hi 2 _ rfl
  have e3 := hi 3 _ rfl
  have e4 := hi 4 _ rfl
  simp only [c9, c3, c5, Value.cells] at e0 e1 e2 e3 e4
  have e0 : DataW.trod enc Tryz.prog W 0 sp held m 9 [v0] = some x0 := e0
  have e1 : DataW.trod enc Tryz.prog W 0 sp held m 9 [v1] = some x1 := e1
  have e2 : DataW.trod enc Tryz.prog W 0 sp held m 9 [v2] = some x2 := e2
  have e3 : DataW.trod enc Tryz.prog W 0 sp held m 3 [v3] = some x3 := e3
  have e4 : DataW.trod enc Tryz.prog W 0 sp held m 5 [v4] = some x4 := e4
  obtain ⟨a, h0, _⟩ := DataW.trod_string Tryz.underlying9 e0
  obtain ⟨b, h1, _⟩ := DataW.trod_string Tryz.underlying9 e1
  obtain ⟨c, h2, _⟩ := DataW.trod_string Tryz.underlying9 e2
  obtain ⟨n, h3, _⟩ := DataW.trod_int Tryz.underlying3 e3
  obtain ⟨s, h4, _, h5⟩ := DataW.trod_int Tryz.underlying5 e4
  simp only [List.cons.injEq, and_true] at h0 h1 h2 h3 h4
  have h6 : 0 ≤ s ∧ s ≤ 255 := by
    have h6 : (decide (IntKind.u8.min ≤ s) && decide (s ≤ IntKind.u8.max)) = true := h5
    rw [Bool.and_eq_true, decide_eq_true_eq, decide_eq_true_eq] at h6
    exact h6
  exact ⟨a, b, c, n, s, by rw [h0, h1, h2, h3, h4], h6.1, h6.2⟩
end Go.Proofs.YtldohjlcckbfaaaGreatDoor.Hand
