/- What the reference's makers come to. -/
import Derived.Test.YtcjbnonjhahakaaDoorEvA
import Derived.Test.YtcjbnonjhahakaaDoorHandJ
namespace Go.Proofs.YtcjbnonjhahakaaDoor.Pure
open Go.RowKit Go.Proofs.YtcjbnonjhahakaaDoor.Hand Go.Proofs.YtcjbnonjhahakaaDoor.Print Go.Proofs.YtcjbnonjhahakaaDoor.Math Go.Proofs.YtcjbnonjhahakaaDoorW.PrintWords Go.Proofs.YtcjbnonjhahakaaDoorW.PrintLast Go.Proofs.YtcjbnonjhahakaaDoorW.PrintMore
set_option linter.unusedVariables false
set_option linter.unusedSimpArgs false

open Go.Proofs.YtcjbnonjhahakaaDoor.Fir
theorem rdOf_at {xs : List ByteArray} {i : Nat} (h : i < xs.length) : rdOf ByteArray.empty xs (i : Int) = xs[i] := by
  unfold rdOf
  rw [Int.toNat_natCast, List.getD_eq_getElem?_getD, List.getElem?_eq_getElem h]; rfl
theorem ev_ahead_l (op : ByteArray) (more : List ByteArray) (hop : op.size ≤ 1) (hs : ∀ s ∈ more, s.size ≤ 1000) (hm : more.length ≤ 1000000000000) (d : Nat) : ∀ (i : Nat) (l : List ByteArray), i + d = more.length → l.length + d ≤ 4000000000000 →
    Ev (fun k => pomaderef08_ahead.l0 k l op more (i : Int)) (l ++ (more.drop i).map (op ++ ·)) := by
  induction d with
  | zero =>
    intro i l hi hl
    obtain rfl : i = more.length := by omega
    rw [List.drop_length, List.map_nil, List.append_nil]
    refine Ev.step (f := fun _ => some l) (fun k => ?_) (Ev.now _)
    simp only [pomaderef08_ahead.l0]
    rw [if_neg (by omega)]
  | succ d ih =>
    intro i l hi hl
    have hlt : i < more.length := by omega
    have h1 := hs more[i] (List.getElem_mem hlt)
    have hup : wrap64 ((i : Int) + 1) = ((i + 1 : Nat) : Int) := by rw [w64 (by omega)]; omega
    have hd : l ++ (more.drop i).map (op ++ ·) = (l ++ [op ++ more[i]]) ++ (more.drop (i + 1)).map (op ++ ·) := by
      rw [List.drop_eq_getElem_cons hlt, List.map_cons, List.append_assoc]; rfl
    rw [hd]
    refine Ev.step (fun k => ?_) (ih (i + 1) (l ++ [op ++ more[i]]) (by omega) (by rw [List.length_append, List.length_singleton]; omega))
    simp only [pomaderef08_ahead.l0]
    rw [if_pos (by omega), if_pos (by omega), rdOf_at hlt, if_pos (by omega), if_pos (by omega), hup]
theorem ev_ahead (l : List ByteArray) (c : UInt8) (Y : List (List UInt8)) (hY : ∀ y ∈ Y, y.length ≤ 1000) (hYl : Y.length ≤ 1000000000000) (hl : l.length ≤ 1000000000000) :
    Ev (fun k => pomaderef08_ahead.f k l (B [c]) (Y.map B)) (l ++ (Y.map (c :: ·)).map B) := by
  have := ev_ahead_l (B [c]) (Y.map B) (by rw [B_size]; exact Nat.le_refl 1) (fun s hs => by obtain ⟨y, hy, rfl⟩ := List.mem_map.1 hs; rw [B_size]; exact hY y hy) (by rw [List.length_map]; exact hYl) Y.length 0 l (by rw [List.length_map]; omega) (by omega)
  rw [List.drop_zero] at this
  have e : (Y.map B).map (B [c] ++ ·) = (Y.map (c :: ·)).map B := by
    rw [List.map_map, List.map_map]
    refine List.map_congr_left fun y _ => ?_
    show B [c] ++ B y = B (c :: y)
    exact B_of (by rw [L_append, L_B, L_B]; rfl)
  rw [e] at this
  exact this
/-- What an operation brings. -/
def gc (c : UInt8) (m : Nat) (x : List UInt8) : List (List UInt8) := (befores c x).flatMap fun b => (mkL m b).map (c :: ·)
theorem mkL_gc (m : Nat) (x : List UInt8) : mkL (m + 1) x = (if x.length + 1 ≤ m + 1 then [50 :: x] else []) ++ (gc 51 m x ++ (gc 52 m x ++ (gc 53 m x ++ (gc 54 m x ++ gc 55 m x)))) := by
  rw [mkL]
  congr 1
  simp [five, List.flatMap_cons, gc]
theorem strNum (d : UInt8) : strOfNums [(d.toNat : Int)] = B [d] := by simp [strOfNums, B]
def mkZ (m : Nat) (b : List UInt8) : List (List UInt8) := if b = [] then [] else mkL m b
theorem mkZ_len {m : Nat} {b y : List UInt8} (h : y ∈ mkZ m b) : y.length ≤ m := by
  unfold mkZ at h
  split at h
  · cases h
  · exact mkL_len _ _ _ h
theorem mkZ_many (m : Nat) (b : List UInt8) : (mkZ m b).length ≤ 14 ^ m := by
  unfold mkZ
  split
  · simp
  · exact mkL_many m b
theorem one_flat {α β : Type} (f : α → List β) (a : α) : [a].flatMap f = f a := by simp
theorem gc_51 (m : Nat) (x : List UInt8) : gc 51 m x = if x.length % 2 = 1 ∧ x[x.length / 2]? = some 50 ∧ x.take (x.length / 2) = x.drop (x.length / 2 + 1) then (mkZ m (x.take (x.length / 2))).map (51 :: ·) else [] := by
  unfold gc
  rw [bef_51]
  by_cases h : x.length % 2 = 1 ∧ x[x.length / 2]? = some 50 ∧ x.take (x.length / 2) = x.drop (x.length / 2 + 1)
  · rw [if_pos h]
    by_cases h2 : x.length > 2
    · rw [if_pos ⟨h2, h⟩, one_flat]
      unfold mkZ
      rw [if_neg (fun e => by have := congrArg List.length e; rw [List.length_take, List.length_nil] at this; omega)]
    · rw [if_neg (fun q => h2 q.1)]
      unfold mkZ
      rw [if_pos (List.eq_nil_of_length_eq_zero (by rw [List.length_take]; omega))]; rfl
  · rw [if_neg h, if_neg (fun q => h q.2)]; rfl
theorem gc_52 (m : Nat) (x : List UInt8) (hx : x ≠ []) : gc 52 m x = (mkZ m x.reverse).map (52 :: ·) := by
  unfold gc mkZ
  rw [bef_52, one_flat, if_neg (by simpa using hx)]
theorem gc_53 (m : Nat) (x : List UInt8) (hx : x ≠ []) : gc 53 m x = if x.length % 2 = 0 ∧ x.take (x.length / 2) = x.drop (x.length / 2) then (mkZ m (x.take (x.length / 2))).map (53 :: ·) else [] := by
  have hl : 0 < x.length := List.length_pos_iff.2 hx
  unfold gc
  rw [bef_53]
  by_cases h : x.length % 2 = 0 ∧ x.take (x.length / 2) = x.drop (x.length / 2)
  · rw [if_pos h, if_pos h, one_flat]
    unfold mkZ
    rw [if_neg (fun e => by have := congrArg List.length e; rw [List.length_take, List.length_nil] at this; omega)]
  · rw [if_neg h, if_neg h]; rfl
theorem gc_54 (m : Nat) (x : List UInt8) : gc 54 m x = nine.flatMap fun d => (mkZ m (d :: x)).map (54 :: ·) := by
  unfold gc
  rw [bef_54, List.flatMap_map]
  refine flatMap_congr' fun d _ => ?_
  unfold mkZ
  rw [if_neg (by simp)]
theorem gc_55 (m : Nat) (x : List UInt8) : gc 55 m x = if x.head? = some 49 then (mkZ m x.tail).map (55 :: ·) else [] := by
  unfold gc
  rw [bef_55]
  by_cases h : x.head? = some 49
  · rw [if_pos h]
    by_cases h2 : x.length > 1
    · rw [if_pos ⟨h2, h⟩, one_flat]
      unfold mkZ
      rw [if_neg (fun e => by have := congrArg List.length e; rw [List.length_tail, List.length_nil] at this; omega)]
    · rw [if_neg (fun q => h2 q.1)]
      unfold mkZ
      rw [if_pos (List.eq_nil_of_length_eq_zero (by rw [List.length_tail]; omega))]; rfl
  · rw [if_neg h, if_neg (fun q => h q.2)]; rfl
theorem ev_call {m : Nat} (hm : m ≤ 7) (ih : ∀ y : List UInt8, y.length + m ≤ 301 → Ev (fun k => pomaderef08_makers.f k (B y) (m : Int)) ((mkZ m y).map B)) {β : Type} (c : UInt8) (b : List UInt8) (hb : b.length + m ≤ 301) (Y : List (List UInt8)) (hY : Y.length ≤ 500000000000) (G : Nat → List ByteArray → Option β) (R : β)
    (h : Ev (fun k => G k ((Y ++ (mkZ m b).map (c :: ·)).map B)) R) :
    Ev (fun k => (pomaderef08_makers.f k (B b) (wrap64 (((m + 1 : Nat) : Int) - 1))).bind fun t => (pomaderef08_ahead.f k (Y.map B) (B [c]) t).bind fun u => G k u) R := by
  have e1 : wrap64 (((m + 1 : Nat) : Int) - 1) = (m : Int) := by rw [w64 (by omega)]; omega
  rw [e1]
  have h14 : 14 ^ m ≤ 105413504 := Nat.le_trans (Nat.pow_le_pow_right (by decide) hm) (by decide)
  refine Ev.bind (ih b hb) (Ev.bind (ev_ahead (Y.map B) c (mkZ m b) (fun y hy => Nat.le_trans (mkZ_len hy) (by omega)) (Nat.le_trans (mkZ_many m b) (by omega)) (by rw [List.length_map]; omega)) ?_)
  rw [← List.map_append]
  exact h
theorem ev_l58 {m : Nat} (hm : m ≤ 7) {x : List UInt8} (hx : x ≠ []) (hxl : x.length + m ≤ 300) (ih : ∀ y : List UInt8, y.length + m ≤ 301 → Ev (fun k => pomaderef08_makers.f k (B y) (m : Int)) ((mkZ m y).map B)) (Y : List (List UInt8)) (hY : Y.length ≤ 500000000000) : Ev (fun k => pomaderef08_makers.l0 k (B x) ((m + 1 : Nat) : Int) (Y.map B) 58) ((Y ++ gc 55 m x).map B) := by
  have hl : 0 < x.length := List.length_pos_iff.2 hx
  rw [gc_55]
  cases x with
  | nil => exact absurd rfl hx
  | cons a t =>
    have hb : bt (B (a :: t)) 0 = (a.toNat : Int) := bt_B (a :: t) 0 (by simp)
    have hs : (B (a :: t)).size = t.length + 1 := rfl
    by_cases h : a = 49
    · subst h
      rw [if_pos (show (49 :: t).head? = some 49 from rfl)]
      refine Ev.step (fun k => ?_) (ev_call hm ih 55 t (by simp at hxl; omega) Y hY (fun _ u => some u) _ (Ev.now _))
      simp only [pomaderef08_makers.l0]
      rw [if_neg (by omega), hb, hs, if_pos (by omega), if_pos (show ((UInt8.toNat 49 : Nat) : Int) = 49 from rfl), if_pos (by omega), ← hs, B_drop]; rfl
    · rw [if_neg (by simpa using h)]
      rw [List.append_nil]
      refine Ev.step (f := fun _ => some (Y.map B)) (fun k => ?_) (Ev.now _)
      simp only [pomaderef08_makers.l0]
      rw [if_neg (by omega), hb, hs, if_pos (by omega), if_neg (show ¬ (a.toNat : Int) = 49 from fun q => h (UInt8.toNat_inj.1 (Int.ofNat.inj q)))]
theorem ev_l49 {m : Nat} (hm : m ≤ 7) {x : List UInt8} (hx : x ≠ []) (hxl : x.length + m ≤ 300) (ih : ∀ y : List UInt8, y.length + m ≤ 301 → Ev (fun k => pomaderef08_makers.f k (B y) (m : Int)) ((mkZ m y).map B)) (d : Nat) : ∀ (i : Nat) (Y : List (List UInt8)), i + d = 9 → Y.length + d * 14 ^ m ≤ 400000000000 → Ev (fun k => pomaderef08_makers.l0 k (B x) ((m + 1 : Nat) : Int) (Y.map B) (49 + (i : Int))) ((Y ++ (((nine.drop i).flatMap fun d => (mkZ m (d :: x)).map (54 :: ·)) ++ gc 55 m x)).map B) := by
  induction d with
  | zero =>
    intro i Y hi hY
    obtain rfl : i = 9 := by omega
    have := ev_l58 hm hx hxl ih Y (by omega)
    simpa [nine] using this
  | succ d ihd =>
    intro i Y hi hY
    obtain ⟨c, hc, hcn, _⟩ := digs_get i (by omega)
    have hc9 : nine[i]? = some c := hc
    have hlt := (List.getElem?_eq_some_iff.1 hc9).1
    have hcg := (List.getElem?_eq_some_iff.1 hc9).2
    rw [List.drop_eq_getElem_cons hlt, hcg, List.flatMap_cons, List.append_assoc, ← List.append_assoc Y]
    have hmz := mkZ_many m (c :: x)
    rw [Nat.succ_mul] at hY
    refine Ev.step (fun k => ?_) (ev_call hm ih 54 (c :: x) (by simp; omega) Y (by omega) (fun k u => pomaderef08_makers.l0 k (B x) ((m + 1 : Nat) : Int) u (49 + ((i + 1 : Nat) : Int))) _ (ihd (i + 1) _ (by omega) (by rw [List.length_append, List.length_map]; omega)))
    simp only [pomaderef08_makers.l0]
    have hbs : (B [c]).size = 1 := rfl
    have hbx : (B x).size = x.length := rfl
    have e1 : B [c] ++ B x = B (c :: x) := B_of (by rw [L_append, L_B, L_B]; rfl)
    have e2 : (49 + (i : Int) + 1) % 256 = 49 + ((i + 1 : Nat) : Int) := by omega
    rw [if_pos (by omega), ← hcn, Option.bind_some, strNum, hbs, hbx, if_pos (by omega), e1, hcn, e2]; rfl
theorem ev_j5 {m : Nat} (hm : m ≤ 7) {x : List UInt8} (hx : x ≠ []) (hxl : x.length + m ≤ 300) (ih : ∀ y : List UInt8, y.length + m ≤ 301 → Ev (fun k => pomaderef08_makers.f k (B y) (m : Int)) ((mkZ m y).map B)) (Y : List (List UInt8)) (hY : Y.length ≤ 300000000000) : Ev (fun k => pomaderef08_makers.j5 k (B x) ((m + 1 : Nat) : Int) (Y.map B)) ((Y ++ (gc 54 m x ++ gc 55 m x)).map B) := by
  have h14 : 14 ^ m ≤ 105413504 := Nat.le_trans (Nat.pow_le_pow_right (by decide) hm) (by decide)
  have := ev_l49 hm hx hxl ih 9 0 Y rfl (by omega)
  rw [List.drop_zero, ← gc_54] at this
  refine Ev.step (fun k => ?_) this
  simp only [pomaderef08_makers.j5]; rfl
theorem ev_j4 {m : Nat} (hm : m ≤ 7) {x : List UInt8} (hx : x ≠ []) (hxl : x.length + m ≤ 300) (ih : ∀ y : List UInt8, y.length + m ≤ 301 → Ev (fun k => pomaderef08_makers.f k (B y) (m : Int)) ((mkZ m y).map B)) (Y : List (List UInt8)) (hY : Y.length ≤ 200000000000) (q : Bool) (hq : q = true ↔ (x.length % 2 = 0 ∧ x.take (x.length / 2) = x.drop (x.length / 2))) :
    Ev (fun k => pomaderef08_makers.j4 k (B x) ((m + 1 : Nat) : Int) (Y.map B) ((x.length / 2 : Nat) : Int) q) ((Y ++ (gc 53 m x ++ (gc 54 m x ++ gc 55 m x))).map B) := by
  have h14 : 14 ^ m ≤ 105413504 := Nat.le_trans (Nat.pow_le_pow_right (by decide) hm) (by decide)
  have hbx : (B x).size = x.length := rfl
  have hmz := mkZ_many m (x.take (x.length / 2))
  rw [gc_53 m x hx]
  by_cases c : x.length % 2 = 0 ∧ x.take (x.length / 2) = x.drop (x.length / 2)
  · rw [if_pos c, ← List.append_assoc]
    have hq1 := hq.2 c
    subst hq1
    refine Ev.step (fun k => ?_) (ev_call hm ih 53 (x.take (x.length / 2)) (by rw [List.length_take]; omega) Y (by omega) (fun k u => pomaderef08_makers.j5 k (B x) ((m + 1 : Nat) : Int) u) _ (ev_j5 hm hx hxl ih _ (by rw [List.length_append, List.length_map]; omega)))
    simp only [pomaderef08_makers.j4]
    rw [if_pos trivial, hbx, if_pos (by omega), if_pos (by omega), Int.toNat_natCast, B_take _ _ (by omega)]; rfl
  · rw [if_neg c, List.nil_append]
    have hq1 : q = false := Bool.eq_false_iff.2 (fun e => c (hq.1 e))
    subst hq1
    refine Ev.step (fun k => ?_) (ev_j5 hm hx hxl ih Y (by omega))
    simp only [pomaderef08_makers.j4]; rfl
theorem ev_j3 {m : Nat} (hm : m ≤ 7) {x : List UInt8} (hx : x ≠ []) (hxl : x.length + m ≤ 300) (ih : ∀ y : List UInt8, y.length + m ≤ 301 → Ev (fun k => pomaderef08_makers.f k (B y) (m : Int)) ((mkZ m y).map B)) (Y : List (List UInt8)) (hY : Y.length ≤ 100000000000) :
    Ev (fun k => pomaderef08_makers.j3 k (B x) ((m + 1 : Nat) : Int) (Y.map B) ((x.length / 2 : Nat) : Int)) ((Y ++ (gc 52 m x ++ (gc 53 m x ++ (gc 54 m x ++ gc 55 m x)))).map B) := by
  have hl : 0 < x.length := List.length_pos_iff.2 hx
  have h14 : 14 ^ m ≤ 105413504 := Nat.le_trans (Nat.pow_le_pow_right (by decide) hm) (by decide)
  have hbx : (B x).size = x.length := rfl
  have hmz := mkZ_many m x.reverse
  have hrev : applL [52] x = (x.reverse, 0) := by
    have e1 : long1 52 x.length = x.length := by unfold long1; rw [if_neg (by decide), if_pos rfl]
    rw [applL, e1, if_neg (by omega), if_neg (by omega), applL, app_52]
  have hap := ev_apply (B [52]) (B x) (by rw [L_B]; decide) (by rw [B_size]; decide) (by rw [hbx]; omega) (by rw [hbx]; omega)
  rw [L_B, L_B, List.reverse_singleton, hrev] at hap
  rw [gc_52 m x hx, ← List.append_assoc]
  let Y2 := Y ++ (mkZ m x.reverse).map (52 :: ·)
  have hY2 : Y2.length ≤ 200000000000 := by show (Y ++ (mkZ m x.reverse).map (52 :: ·)).length ≤ _; rw [List.length_append, List.length_map]; omega
  have hafter : Ev (fun k => if ((B x).size : Int) % 2 = 0 then (if 0 ≤ ((x.length / 2 : Nat) : Int) then (if ((x.length / 2 : Nat) : Int) ≤ ((B x).size : Int) then (pomaderef08_makers.j4 k (B x) ((m + 1 : Nat) : Int) (Y2.map B) ((x.length / 2 : Nat) : Int) (((B x).extract 0 (((x.length / 2 : Nat) : Int)).toNat).toList == ((B x).extract (((x.length / 2 : Nat) : Int)).toNat (B x).size).toList)) else none) else none) else (pomaderef08_makers.j4 k (B x) ((m + 1 : Nat) : Int) (Y2.map B) ((x.length / 2 : Nat) : Int) false)) ((Y2 ++ (gc 53 m x ++ (gc 54 m x ++ gc 55 m x))).map B) := by
    by_cases c : x.length % 2 = 0
    · refine Ev.congr (fun k => ?_) (ev_j4 hm hx hxl ih Y2 hY2 (((B x).extract 0 (((x.length / 2 : Nat) : Int)).toNat).toList == ((B x).extract (((x.length / 2 : Nat) : Int)).toNat (B x).size).toList) (by
        rw [beq_iff_eq, Int.toNat_natCast, B_drop, B_take _ _ (by omega), ByteArray.toList_eq, ByteArray.toList_eq]
        exact ⟨fun e => ⟨c, e⟩, fun e => e.2⟩))
      rw [hbx, if_pos (by omega), if_pos (by omega), if_pos (by omega)]
    · refine Ev.congr (fun k => ?_) (ev_j4 hm hx hxl ih Y2 hY2 false ⟨fun e => (by cases e), fun e => absurd e.1 c⟩)
      rw [hbx, if_neg (by omega)]
  refine Ev.step (f := fun k => (pomaderef08_apply.f k (B [52]) (B x)).bind fun t => (pomaderef08_makers.f k t.1 (wrap64 (((m + 1 : Nat) : Int) - 1))).bind fun t2 => (pomaderef08_ahead.f k (Y.map B) (B [52]) t2).bind fun t3 => if ((B x).size : Int) % 2 = 0 then (if 0 ≤ ((x.length / 2 : Nat) : Int) then (if ((x.length / 2 : Nat) : Int) ≤ ((B x).size : Int) then (pomaderef08_makers.j4 k (B x) ((m + 1 : Nat) : Int) t3 ((x.length / 2 : Nat) : Int) (((B x).extract 0 (((x.length / 2 : Nat) : Int)).toNat).toList == ((B x).extract (((x.length / 2 : Nat) : Int)).toNat (B x).size).toList)) else none) else none) else (pomaderef08_makers.j4 k (B x) ((m + 1 : Nat) : Int) t3 ((x.length / 2 : Nat) : Int) false)) (fun k => ?_) (Ev.bind hap (ev_call hm ih 52 x.reverse (by rw [List.length_reverse]; omega) Y (by omega) (fun k t3 => if ((B x).size : Int) % 2 = 0 then (if 0 ≤ ((x.length / 2 : Nat) : Int) then (if ((x.length / 2 : Nat) : Int) ≤ ((B x).size : Int) then (pomaderef08_makers.j4 k (B x) ((m + 1 : Nat) : Int) t3 ((x.length / 2 : Nat) : Int) (((B x).extract 0 (((x.length / 2 : Nat) : Int)).toNat).toList == ((B x).extract (((x.length / 2 : Nat) : Int)).toNat (B x).size).toList)) else none) else none) else (pomaderef08_makers.j4 k (B x) ((m + 1 : Nat) : Int) t3 ((x.length / 2 : Nat) : Int) false)) _ hafter))
  simp only [pomaderef08_makers.j3]; rfl
theorem ev_j2 {m : Nat} (hm : m ≤ 7) {x : List UInt8} (hx : x ≠ []) (hxl : x.length + m ≤ 300) (ih : ∀ y : List UInt8, y.length + m ≤ 301 → Ev (fun k => pomaderef08_makers.f k (B y) (m : Int)) ((mkZ m y).map B)) (Y : List (List UInt8)) (hY : Y.length ≤ 50000000000) (q : Bool) (hq : q = true ↔ (x.length % 2 = 1 ∧ x[x.length / 2]? = some 50 ∧ x.take (x.length / 2) = x.drop (x.length / 2 + 1))) :
    Ev (fun k => pomaderef08_makers.j2 k (B x) ((m + 1 : Nat) : Int) (Y.map B) ((x.length / 2 : Nat) : Int) q) ((Y ++ (gc 51 m x ++ (gc 52 m x ++ (gc 53 m x ++ (gc 54 m x ++ gc 55 m x))))).map B) := by
  have h14 : 14 ^ m ≤ 105413504 := Nat.le_trans (Nat.pow_le_pow_right (by decide) hm) (by decide)
  have hbx : (B x).size = x.length := rfl
  have hmz := mkZ_many m (x.take (x.length / 2))
  rw [gc_51]
  by_cases c : x.length % 2 = 1 ∧ x[x.length / 2]? = some 50 ∧ x.take (x.length / 2) = x.drop (x.length / 2 + 1)
  · rw [if_pos c, ← List.append_assoc]
    have hq1 := hq.2 c
    subst hq1
    refine Ev.step (fun k => ?_) (ev_call hm ih 51 (x.take (x.length / 2)) (by rw [List.length_take]; omega) Y (by omega) (fun k u => pomaderef08_makers.j3 k (B x) ((m + 1 : Nat) : Int) u ((x.length / 2 : Nat) : Int)) _ (ev_j3 hm hx hxl ih _ (by rw [List.length_append, List.length_map]; omega)))
    simp only [pomaderef08_makers.j2]
    rw [if_pos trivial, hbx, if_pos (by omega), if_pos (by omega), Int.toNat_natCast, B_take _ _ (by omega)]; rfl
  · rw [if_neg c, List.nil_append]
    have hq1 : q = false := Bool.eq_false_iff.2 (fun e => c (hq.1 e))
    subst hq1
    refine Ev.step (fun k => ?_) (ev_j3 hm hx hxl ih Y (by omega))
    simp only [pomaderef08_makers.j2]; rfl
theorem ev_j1 {m : Nat} (hm : m ≤ 7) {x : List UInt8} (hx : x ≠ []) (hxl : x.length + m ≤ 300) (ih : ∀ y : List UInt8, y.length + m ≤ 301 → Ev (fun k => pomaderef08_makers.f k (B y) (m : Int)) ((mkZ m y).map B)) (Y : List (List UInt8)) (hY : Y.length ≤ 1) :
    Ev (fun k => pomaderef08_makers.j1 k (B x) ((m + 1 : Nat) : Int) (Y.map B)) ((Y ++ (gc 51 m x ++ (gc 52 m x ++ (gc 53 m x ++ (gc 54 m x ++ gc 55 m x))))).map B) := by
  have hl : 0 < x.length := List.length_pos_iff.2 hx
  have hbx : (B x).size = x.length := rfl
  have e0 : wrap64 (((B x).size : Int) / 2) = ((x.length / 2 : Nat) : Int) := by rw [hbx, w64 (by omega)]; omega
  have e1 : wrap64 (((x.length / 2 : Nat) : Int) + 1) = ((x.length / 2 + 1 : Nat) : Int) := by rw [w64 (by omega)]; omega
  by_cases c1 : x.length % 2 = 1
  · have hlt : x.length / 2 < x.length := by omega
    have hb := bt_B x (x.length / 2) hlt
    by_cases c2 : x[x.length / 2]'hlt = 50
    · have c2' : (((x[x.length / 2]'hlt).toNat : Nat) : Int) = 50 := by rw [c2]; rfl
      refine Ev.step (fun k => ?_) (ev_j2 hm hx hxl ih Y (by omega) (((B x).extract 0 (((x.length / 2 : Nat) : Int)).toNat).toList == ((B x).extract (((x.length / 2 + 1 : Nat) : Int)).toNat (B x).size).toList) (by
        rw [beq_iff_eq, Int.toNat_natCast, Int.toNat_natCast, B_drop, B_take _ _ (by omega), ByteArray.toList_eq, ByteArray.toList_eq]
        exact ⟨fun e => ⟨c1, by rw [List.getElem?_eq_getElem hlt, c2], e⟩, fun e => e.2.2⟩))
      simp only [pomaderef08_makers.j1]
      rw [e0, e1, hbx, if_pos (by omega), if_pos (by omega), if_pos (by omega), hb, if_pos c2', if_pos (by omega), if_pos (by omega), if_pos (by omega)]
    · have c2' : ¬ (((x[x.length / 2]'hlt).toNat : Nat) : Int) = 50 := fun h => c2 (UInt8.toNat_inj.1 (Int.ofNat.inj h))
      refine Ev.step (fun k => ?_) (ev_j2 hm hx hxl ih Y (by omega) false ⟨fun e => (by cases e), fun e => absurd (by have := e.2.1; rw [List.getElem?_eq_getElem hlt] at this; exact Option.some.inj this) c2⟩)
      simp only [pomaderef08_makers.j1]
      rw [e0, e1, hbx, if_pos (by omega), if_pos (by omega), if_pos (by omega), hb, if_neg c2']
  · refine Ev.step (fun k => ?_) (ev_j2 hm hx hxl ih Y (by omega) false ⟨fun e => (by cases e), fun e => absurd e.1 c1⟩)
    simp only [pomaderef08_makers.j1]
    rw [e0, hbx, if_neg (by omega)]
theorem ev_makers : ∀ (m : Nat) (x : List UInt8), m ≤ 8 → x.length + m ≤ 301 → Ev (fun k => pomaderef08_makers.f k (B x) (m : Int)) ((mkZ m x).map B) := by
  have hnone : ∀ (x : List UInt8) (a : Int), Ev (fun k => pomaderef08_makers.j0 k (B x) a ([] : List ByteArray) true) [] := fun x a => Ev.step (f := fun _ => some []) (fun k => by simp only [pomaderef08_makers.j0]; rw [if_pos trivial]) (Ev.now _)
  have hsmall : ∀ (m : Nat) (x : List UInt8), m < 2 → mkZ m x = [] := fun m x h => by
    unfold mkZ
    by_cases e : x = []
    · rw [if_pos e]
    · rw [if_neg e]
      exact Classical.byContradiction fun h2 => by have := (mkL_long m x e h2).1; omega
  intro m
  induction m with
  | zero =>
    intro x _ _
    rw [hsmall 0 x (by omega)]
    refine Ev.step (fun k => ?_) (hnone x 0)
    simp only [pomaderef08_makers.f]
    rw [if_pos (by decide)]; rfl
  | succ m ih =>
    intro x hm hxl
    by_cases h2 : m + 1 < 2
    · rw [hsmall (m + 1) x h2]
      refine Ev.step (fun k => ?_) (hnone x ((m + 1 : Nat) : Int))
      simp only [pomaderef08_makers.f]
      rw [if_pos (by omega)]
    · by_cases hx : x = []
      · subst hx
        have e : mkZ (m + 1) [] = [] := by unfold mkZ; rw [if_pos rfl]
        rw [e]
        refine Ev.step (fun k => ?_) (hnone [] ((m + 1 : Nat) : Int))
        simp only [pomaderef08_makers.f]
        rw [if_neg (by omega), if_pos (by rfl)]
      · have hl : 0 < x.length := List.length_pos_iff.2 hx
        have hbx : (B x).size = x.length := rfl
        have e1 : wrap64 (((m + 1 : Nat) : Int) - 1) = (m : Int) := by rw [w64 (by omega)]; omega
        have h2m : 2 ^ m ≤ 2 ^ 7 := Nat.pow_le_pow_right (by decide) (by omega)
        have e2 : wrap64 (shl .i64 1 (m : Int) - 1) = ((2 ^ m : Nat) : Int) - 1 := by
          unfold shl
          have h64 : IntKind.i64.bits = 64 := rfl
          rw [Int.toNat_natCast, h64, Nat.min_eq_left (by omega), Int.one_mul, i64_w]
          have : ((2 : Int) ^ m) = ((2 ^ m : Nat) : Int) := by simp
          rw [this]
          obtain ⟨q, hq⟩ : ∃ q, 2 ^ m = q := ⟨_, rfl⟩
          rw [hq] at h2m ⊢
          clear hq this
          rw [w64 (n := (q : Int)) (by omega), w64 (by omega)]
        have hz : mkZ (m + 1) x = mkL (m + 1) x := by unfold mkZ; rw [if_neg hx]
        rw [hz]
        have hj0 : Ev (fun k => pomaderef08_makers.j0 k (B x) ((m + 1 : Nat) : Int) ([] : List ByteArray) (decide (((B x).size : Int) > ((2 ^ m : Nat) : Int) - 1))) ((mkL (m + 1) x).map B) := by
          by_cases hbig : x.length + 1 > 2 ^ m
          · have e : mkL (m + 1) x = [] := Classical.byContradiction fun h => by have := (mkL_long (m + 1) x hx h).2; simp at this; omega
            rw [e, decide_eq_true (by rw [hbx]; omega)]
            exact hnone x _
          · rw [decide_eq_false (by rw [hbx]; omega), mkL_gc]
            have ihm : ∀ y : List UInt8, y.length + m ≤ 301 → Ev (fun k => pomaderef08_makers.f k (B y) (m : Int)) ((mkZ m y).map B) := fun y hy => ih y (by omega) hy
            by_cases ht : x.length + 1 ≤ m + 1
            · rw [if_pos ht]
              refine Ev.step (fun k => ?_) (ev_j1 (by omega) hx (by omega) ihm [50 :: x] (by simp))
              simp only [pomaderef08_makers.j0]
              have e3 : (⟨#[50]⟩ : ByteArray) ++ B x = B (50 :: x) := B_of (by rw [L_append, L_B]; rfl)
              rw [if_neg (by decide), hbx, w64 (n := (x.length : Int) + 1) (by omega), if_pos (by omega), if_pos (by omega), if_pos (by simp), e3]; rfl
            · rw [if_neg ht]
              refine Ev.step (fun k => ?_) (ev_j1 (by omega) hx (by omega) ihm [] (by simp))
              simp only [pomaderef08_makers.j0]
              rw [if_neg (by decide), hbx, w64 (n := (x.length : Int) + 1) (by omega), if_neg (by omega)]; rfl
        refine Ev.step (fun k => ?_) hj0
        simp only [pomaderef08_makers.f]
        rw [if_neg (by omega), if_neg (by rw [hbx]; omega), e1, if_pos (by omega), e2]

end Go.Proofs.YtcjbnonjhahakaaDoor.Pure
