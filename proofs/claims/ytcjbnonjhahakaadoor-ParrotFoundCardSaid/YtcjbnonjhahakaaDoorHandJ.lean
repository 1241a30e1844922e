import Derived.Test.YtcjbnonjhahakaaDoorProg
import Derived.Below
import Derived.Deep.Draws
import Derived.Deep.AppendLies
import Derived.Maps.AppendAt
import Derived.OwnWalk
import Derived.Laws.BytesArg
import Derived.Laws.MakeOwn
import Derived.Laws.OwnMore
import Derived.Deep.OwnRows
import Derived.Tactics
import Derived.Lib.ConvBytes
import Derived.Laws.Slices
import Derived.WalkKit
import Derived.KernelRfl
import Derived.RowKit3
import Derived.Deep.LoopGhost
import Derived.Deep.QuietTactic
import Derived.BigQuiet
import Derived.WideLaws
import Derived.Deep.DeepCutAuto
import Derived.Deep.CutBlock
import Derived.Deep.RegionHeld3
import Derived.Laws.Rows
import Derived.Lib.AppendStr
import Derived.ArgAppend
import Derived.Laws.IdiomCopy
import Derived.OrdersHeld
import Derived.Laws.BitsLemmas
import Derived.RowKit
import Derived.Test.YtcjbnonjhahakaaDoorWWords
import Derived.Test.YtcjbnonjhahakaaDoorWLast
import Derived.Test.YtcjbnonjhahakaaDoorWTab
import Derived.Test.YtcjbnonjhahakaaDoorWFour
import Derived.Test.YtcjbnonjhahakaaDoorWQPut
import Derived.Test.YtcjbnonjhahakaaDoorWApart
import Derived.Test.YtcjbnonjhahakaaDoorWArr
import Derived.Test.YtcjbnonjhahakaaDoorWZeros
import Derived.Test.YtcjbnonjhahakaaDoorWFoot
import Derived.Test.YtcjbnonjhahakaaDoorWKept
import Derived.Test.YtcjbnonjhahakaaDoorWShare
import Derived.Test.YtcjbnonjhahakaaDoorWN
import Derived.Test.YtcjbnonjhahakaaDoorWFootNe
import Derived.Test.YtcjbnonjhahakaaDoorWAt
import Derived.Test.YtcjbnonjhahakaaDoorWEqStruct
import Derived.Test.YtcjbnonjhahakaaDoorWRepsOne
import Derived.Test.YtcjbnonjhahakaaDoorWInv
import Derived.Test.YtcjbnonjhahakaaDoorWInvWords
import Derived.Test.YtcjbnonjhahakaaDoorWGuard
import Derived.Test.YtcjbnonjhahakaaDoorWNEv
import Derived.Test.YtcjbnonjhahakaaDoorWMore
import Derived.Test.YtcjbnonjhahakaaDoorFir1
import Derived.Sort.Walk0
import Derived.Deep.RegionLawGrows
namespace Go.Proofs.YtcjbnonjhahakaaDoor.Hand
open Go.RowKit Go.Proofs.YtcjbnonjhahakaaDoorW.PrintWords Go.Proofs.YtcjbnonjhahakaaDoorW.PrintLast Go.Proofs.YtcjbnonjhahakaaDoorW.PrintMore
set_option linter.unusedVariables false
set_option linter.unusedSimpArgs false

/-! The reference's sorted. -/
open Go.Shelf Go.Lib Go.Sort Go.Maps Go.Proofs.YtcjbnonjhahakaaDoor.Math Go.Proofs.YtcjbnonjhahakaaDoor.Goes Go.Proofs.YtcjbnonjhahakaaDoor.Bef Go.Proofs.YtcjbnonjhahakaaDoor.Fir Go.Proofs.YtcjbnonjhahakaaDoor.Print
def sortB (l : List ByteArray) : List ByteArray := (sortW (l.map L)).map B
theorem sortB_length (l : List ByteArray) : (sortB l).length = l.length := by
  unfold sortB
  rw [List.length_map, (sortW_perm _).length_eq, List.length_map]
theorem sortB_L (l : List ByteArray) : (sortB l).map L = sortW (l.map L) := by
  unfold sortB
  rw [List.map_map]
  have e : (L ∘ B) = id := by funext x; exact L_B x
  rw [e, List.map_id]
theorem sortB_one {l : List ByteArray} (h : l.length < 2) : sortB l = l := by
  match l, h with
  | [], _ => simp [sortB, sortW]
  | [a], _ => simp [sortB, sortW, B_L]
def mg (a b : List (List UInt8)) : List (List UInt8) := List.merge b a shLe
theorem mg_nil_right (x : List UInt8) (xs : List (List UInt8)) : mg (x :: xs) [] = x :: mg xs [] := by
  unfold mg
  simp [List.merge]
theorem mg_nil_left (y : List UInt8) (ys : List (List UInt8)) : mg [] (y :: ys) = y :: mg [] ys := by
  unfold mg
  cases ys <;> simp [List.merge]
theorem mg_left {x y : List UInt8} {xs ys : List (List UInt8)} (h : shLt x y = true) : mg (x :: xs) (y :: ys) = x :: mg xs (y :: ys) := by
  unfold mg
  rw [List.merge, if_neg (by unfold shLe; simp [h])]
theorem mg_right {x y : List UInt8} {xs ys : List (List UInt8)} (h : shLt x y = false) : mg (x :: xs) (y :: ys) = y :: mg (x :: xs) ys := by
  unfold mg
  rw [List.merge, if_pos (by unfold shLe; simp [h])]
theorem mg_nil : mg [] [] = [] := by unfold mg; simp [List.merge]
/-- The halves, sorted, merged: the whole, sorted. -/
theorem mg_sorted (l : List ByteArray) (h : Nat) : mg ((sortB (l.take h)).map L) ((sortB (l.drop h)).map L) = sortW (l.map L) := by
  rw [sortB_L, sortB_L]
  unfold mg
  refine sorted_one ?_ (List.pairwise_merge shLe_trans shLe_total _ _ (sortW_sorted _) (sortW_sorted _)) (sortW_sorted _)
  refine (List.merge_perm_append ..).trans ?_
  refine (List.perm_append_comm).trans ?_
  refine ((sortW_perm _).append (sortW_perm _)).trans ?_
  rw [← List.map_append, List.take_append_drop]
  exact (sortW_perm _).symm
theorem before_is (a b : ByteArray) : pomaderef08_before.f a b = some (shLt (L a) (L b)) := by
  unfold pomaderef08_before.f shLt
  rw [L_length, L_length, bytesLess_eq, toL, toL]
  by_cases h1 : a.size < b.size
  · rw [if_pos (by omega)]; simp [h1]
  · rw [if_neg (by omega)]
    by_cases h2 : a.size = b.size
    · rw [if_pos (by omega)]; simp [h2]
    · rw [if_neg (by omega)]; simp [h1, h2]
theorem drop_rd (a : List ByteArray) (i : Nat) (h : i < a.length) : (a.map L).drop i = L (rdOf ByteArray.empty a (i : Int)) :: (a.map L).drop (i + 1) := by
  rw [List.drop_eq_getElem_cons (by rw [List.length_map]; exact h), List.getElem_map]
  unfold rdOf
  rw [Int.toNat_natCast, List.getD_eq_getElem?_getD, List.getElem?_eq_getElem h]; rfl
theorem own_formS {w : World} {base n : Nat} {v : Value} {l : List ByteArray} (h : w.ownsRow base 9 1 v n (((sortW (l.map L)).map B).map Value.string)) : ∃ p c, v = .slice p n c ∧ n ≤ c ∧ Kd.C Kd.string w p n (sortB l) := by
  have hn : (sortB l).length = n := by have := h.1; simpa [sortB] using this
  have hR := own_RS (l := sortB l) h hn
  obtain ⟨p, c, rfl⟩ := Kd.R_slice hR
  obtain ⟨_, h2, h3⟩ := Kd.R_reads' hR
  rw [hn] at h2 h3
  exact ⟨p, c, by rw [hn], h2, h3⟩
set_option maxHeartbeats 2000000 in
set_option maxRecDepth 100000 in
theorem sorted_main (N : Nat) : ∀ (l : List ByteArray) (A : Option Addr) (c : Nat) (w : World), l.length ≤ N → l.length ≤ 1000000000000 → l.length ≤ c → Kd.C Kd.string w A l.length l →
    Calls Tryd.prog 59 #[.slice A l.length c] w fun e w' => ∃ A' c', e = .returned (.slice A' l.length c') ∧ l.length ≤ c' ∧ Kd.C Kd.string w' A' l.length (sortB l) ∧ Below w.heap.size w w' ∧ ((l.length < 2 ∧ A' = A ∧ c' = c) ∨ w'.ownsRow w.heap.size 9 1 (.slice A' l.length c') l.length ((sortB l).map Value.string)) := by
  induction N with
  | zero =>
    intro l A c w hN hl hc hC
    have h2 : l.length < 2 := by omega
    have hd : (l.length : Int) < 2 := by omega
    have HC := Aside0.mk hC
    clear hC
    go_enter Tryd.func59, Tryd.ntmps59
    go_wp2
    go_ret
    exact ⟨A, c, rfl, hc, by rw [sortB_one h2]; exact HC.out, Below.refl _ _, .inl ⟨h2, rfl, rfl⟩⟩
  | succ N ih =>
    intro l A c w hN hl hc hC
    by_cases h2 : l.length < 2
    · have hd : (l.length : Int) < 2 := by omega
      have HC := Aside0.mk hC
      clear hC ih
      go_enter Tryd.func59, Tryd.ntmps59
      go_wp2
      go_ret
      exact ⟨A, c, rfl, hc, by rw [sortB_one h2]; exact HC.out, Below.refl _ _, .inl ⟨h2, rfl, rfl⟩⟩
    · have hd : ¬ ((l.length : Int) < 2) := by omega
      obtain ⟨ad, rfl, _⟩ := Kd.at_string hC 0 (by omega) (by omega)
      obtain ⟨h, hh⟩ : ∃ h : Nat, l.length / 2 = h := ⟨_, rfl⟩
      have hq : (l.length : Int) / 2 = (h : Int) := by omega
      have hh1 : 1 ≤ h := by omega
      have hh2 : h < l.length := by omega
      obtain ⟨m, hm⟩ : ∃ m, l.length - h = m := ⟨_, rfl⟩
      have hA : ∀ W, Below w.heap.size w W → Calls Tryd.prog 59 #[.slice (some ad) h c] W fun e w' => ∃ Aa ca, e = .returned (.slice Aa h ca) ∧ h ≤ ca ∧ Kd.C Kd.string w' Aa h (sortB (l.take h)) ∧ Below W.heap.size W w' := fun W hb => by
        have hl1 : (l.take h).length = h := by rw [List.length_take]; omega
        have := ih (l.take h) (some ad) c W (by omega) (by omega) (by omega) (Kd.C_below (Kd.C_take hC (by omega)) hb)
        rw [hl1] at this
        refine this.mono ?_
        rintro e w' ⟨Aa, ca, h1, h2, h3, h4, _⟩
        exact ⟨Aa, ca, h1, h2, h3, h4⟩
      have hB : ∀ W, Below w.heap.size w W → Calls Tryd.prog 59 #[.slice (some (ad.add h)) m (c - h)] W fun e w' => ∃ Ab cb, e = .returned (.slice Ab m cb) ∧ m ≤ cb ∧ Kd.C Kd.string w' Ab m (sortB (l.drop h)) ∧ Below W.heap.size W w' := fun W hb => by
        have hl1 : (l.drop h).length = m := by rw [List.length_drop, hm]
        have hcd := Kd.C_drop (c := c) (m := h) hC (by omega) hc
        rw [if_neg (by omega)] at hcd
        have e1 : Option.map (fun x => x.add (h * Kd.string.sz)) (some ad) = some (ad.add h) := by
          show some (ad.add (h * 1)) = _
          rw [Nat.mul_one]
        rw [e1] at hcd
        have := ih (l.drop h) (some (ad.add h)) (c - h) W (by omega) (by omega) (by omega) (Kd.C_below hcd hb)
        rw [hl1] at this
        refine this.mono ?_
        rintro e w' ⟨Ab, cb, h1, h2, h3, h4, _⟩
        exact ⟨Ab, cb, h1, h2, h3, h4⟩
      have HA := Aside0.mk hA
      have HB := Aside0.mk hB
      have HH := Aside0.mk hh
      have hwI : IntKind.i64.wrap (h : Int) = (h : Int) := by rw [i64_w, wq (by omega)]
      have hp1 : (h : Int) ≤ (c : Int) := by omega
      have hp2 : (h : Int) ≤ (l.length : Int) := by omega
      have hp3 : 0 ≤ (h : Int) := by omega
      have hp4 : ¬ c = h := by omega
      have info9 : (Tryd.prog.info? 9).map (fun i => (i.zero, i.size, i.bytes)) = some (some (.string ByteArray.empty), 1, 16) := by kernel_rfl
      obtain ⟨i0, hi, hz0, hz1, hz2⟩ := info_parts info9
      clear hC ih hA hB hh
      go_enter Tryd.func59, Tryd.ntmps59
      go_wp2
      go_region_law ((first | (go_simp; go_at_call 59; go_loud (first | ((with_reducible refine (HA.out _ ?hA).mono ?_); (case hA => first | exact Below.refl _ _ | exact below_drew (Below.refl _ _)); rintro e w1 ⟨Aa, ca, rfl, hca, hCa, hb1⟩; have HCa := Aside0.mk hCa; have HB1 : Aside0 (Below w.heap.size w w1) := ⟨by first | exact hb1 | exact (below_drew (Below.refl _ w)).trans hb1⟩; clear hCa hb1) | ((with_reducible refine (HB.out _ ?hB).mono ?_); (case hB => exact HB1.out); rintro e w2 ⟨Ab, cb, rfl, hcb, hCb, hb2⟩; have HCb := Aside0.mk hCb; have HCa2 := Aside0.mk (Kd.C_below HCa.out hb2); have HB2 : Aside0 (Below w.heap.size w w2) := ⟨HB1.out.trans (hb2.mono HB1.out.size)⟩; clear hCb hb2)))))
      have HSRT := Aside0.mk (mg_sorted l h)
      have hla : (sortB (l.take h)).length = h := by rw [sortB_length, List.length_take]; omega
      have hlb : (sortB (l.drop h)).length = m := by rw [sortB_length, List.length_drop, hm]
      obtain ⟨a, ha⟩ : ∃ a, sortB (l.take h) = a := ⟨_, rfl⟩
      obtain ⟨b, hb⟩ : ∃ b, sortB (l.drop h) = b := ⟨_, rfl⟩
      rw [ha] at HCa HCa2 HSRT hla
      rw [hb] at HCb HSRT hlb
      clear ha hb HCa HA HB HB1
      have HCa := HCa2
      clear HCa2
      go_wp2
      go_loopg [5, 6, 7] l.length (fun q v5 v6 v7 wr => ∃ (i k : Nat) (u : Value) (o : List (List UInt8)), u = v5 ∧ v6 = .int .i64 (i : Int) ∧ v7 = .int .i64 (k : Int) ∧ i ≤ h ∧ k ≤ m ∧ i + k + q = l.length ∧ o.length = i + k ∧ Aside0 (o ++ mg ((a.map L).drop i) ((b.map L).drop k) = sortW (l.map L)) ∧ Aside0 (wr.ownsRow w2.heap.size 9 1 u (i + k) ((o.map B).map Value.string)) ∧ Aside0 (Below w2.heap.size w2 wr))
      case atStart => exact ⟨0, 0, _, [], rfl, rfl, rfl, by omega, by omega, by omega, rfl, ⟨by simpa using HSRT.out⟩, ⟨own_nil _ _ _ _⟩, ⟨Below.refl _ _⟩⟩
      case round =>
        obtain ⟨i, k, u, o, rfl, rfl, rfl, hih, hkm, hq2, hol, HT, HO, HBw⟩ := hrel
        by_cases hi1 : i < h
        · have hx1 : (i : Int) < (h : Int) := by omega
          have hx1d : decide ((i : Int) < (h : Int)) = true := decide_eq_true hx1
          obtain ⟨q, rfl⟩ : ∃ q, gk = q + 1 := ⟨gk - 1, by omega⟩
          obtain ⟨ada, rfl, _⟩ := Kd.at_string HCa.out (i : Int) (by omega) (by omega)
          obtain ⟨xa, hea⟩ : ∃ xa, rdOf ByteArray.empty a (i : Int) = xa := ⟨_, rfl⟩
          have hda : (a.map L).drop i = L xa :: (a.map L).drop (i + 1) := by
            rw [← hea]; exact drop_rd a i (by omega)
          by_cases hk1 : k < m
          · have hx2 : ((k : Int) == (m : Int)) = false := beq_eq_false_iff_ne.2 (by omega)
            obtain ⟨adb, rfl, _⟩ := Kd.at_string HCb.out (k : Int) (by omega) (by omega)
            obtain ⟨xb, heb⟩ : ∃ xb, rdOf ByteArray.empty b (k : Int) = xb := ⟨_, rfl⟩
            have hdb : (b.map L).drop k = L xb :: (b.map L).drop (k + 1) := by
              rw [← heb]; exact drop_rd b k (by omega)
            by_cases hs : shLt (L xa) (L xb) = true
            · have hbef : pomaderef08_before.f xa xb = some true := by rw [before_is, hs]
              have HT2 : Aside0 (o ++ (L xa :: mg ((a.map L).drop (i + 1)) ((b.map L).drop k)) = sortW (l.map L)) := ⟨by
                rw [← HT.out, hda, hdb, mg_left hs]⟩
              have hxa0 : wr.cell? (ada.add i) = some (.string xa) := by
                obtain ⟨ada2, ea2, hxa⟩ := Kd.at_string (Kd.C_below HCa.out HBw.out) (i : Int) (by omega) (by omega); cases ea2; rw [Int.toNat_natCast, hea] at hxa; exact hxa
              have hxb0 : wr.cell? (adb.add k) = some (.string xb) := by
                obtain ⟨adb2, eb2, hxb⟩ := Kd.at_string (Kd.C_below HCb.out HBw.out) (k : Int) (by omega) (by omega); cases eb2; rw [Int.toNat_natCast, heb] at hxb; exact hxb
              have hx4 : (k : Int) < (m : Int) := by omega
              go_wp2
              go_quiet (first | (go_at_call 68; go_loud (refine (pomaderef08_before.calls xa xb true _ hbef).mono ?_; rintro e w9 ⟨rfl, ⟨nd, rfl⟩⟩; exact ⟨rfl, _, World.drewN_drewN ..⟩)))
              obtain ⟨W, hW⟩ : ∃ W, wr.drewN nq = W := ⟨_, rfl⟩
              have HB3 : Aside0 (Below w2.heap.size w2 W) := ⟨hW ▸ pw_below_drewN HBw.out _⟩
              have HO3 : Aside0 (W.ownsRow w2.heap.size 9 1 u (i + k) ((o.map B).map Value.string)) := ⟨hW ▸ pw_own_below HO.out (pw_below_drewN (Below.refl _ _) _)⟩
              obtain ⟨ada2, ea2, hxa⟩ := Kd.at_string (Kd.C_below HCa.out HB3.out) (i : Int) (by omega) (by omega); cases ea2; rw [Int.toNat_natCast, hea] at hxa
              obtain ⟨adb2, eb2, hxb⟩ := Kd.at_string (Kd.C_below HCb.out HB3.out) (k : Int) (by omega) (by omega); cases eb2; rw [Int.toNat_natCast, heb] at hxb
              rw [hW]
              clear hW HO HBw hxa0 hxb0
              go_wp2_with (at_builtin; go_loud (refine wpList_append_lies _ rfl _ _ 32 rfl w2.heap.size 9 i0 (.string ByteArray.empty) 1 16 Tryd.underlying32 hi hz0 hz1 hz2 rfl (by decide) _ _ _ rfl (HO3.out.alloc _) ⟨W.heap.size, 0, none⟩ 1 1 [.string xa] rfl rfl ?c1 ?c2 (by decide) ?c3 ?c4 ?c5 (W.heap.size + 1) (by simp) ?_))
              case c1 => exact cell_one_new _ _ _
              case c2 => intro u hu; simp at hu; subst hu; rfl
              case c3 => unfold maxLen; omega
              case c4 => omega
              case c5 => have := HB3.out.size; simp; omega
              intro g cap w4 hown4 hgrow4 hat4 hlt4
              have hsz1 : (W.alloc (.cells #[.string xa] 9)).heap.size = W.heap.size + 1 := by simp
              have HO4 : Aside0 (w4.ownsRow w2.heap.size 9 1 (.slice (some ⟨g, 0, none⟩) (i + k + 1) cap) (i + k + 1) (((o ++ [L xa]).map B).map Value.string)) := ⟨by
                have e2 : ((o ++ [L xa]).map B).map Value.string = (o.map B).map Value.string ++ [.string xa] := by simp [B_L]
                rw [e2]
                simpa using hown4⟩
              have HBw4 : Aside0 (Below w2.heap.size w2 w4) := ⟨pw_below_grown (below_alloc HB3.out _) _ (by have := HB3.out.size; rw [hsz1]; omega) hgrow4 (fun k hk => own_base HO3.out k hk)⟩
              clear hown4 hgrow4 hat4
              go_wp2
              go_roundg q
              case measure => omega
              case rel => exact ⟨i + 1, k, _, o ++ [L xa], rfl, by go_num, by go_num, by omega, by omega, by omega, by rw [List.length_append, List.length_singleton]; omega, ⟨by rw [← HT2.out, List.append_assoc]; rfl⟩, ⟨by rw [show i + 1 + k = i + k + 1 by omega]; exact HO4.out⟩, HBw4⟩
            · have hbef : pomaderef08_before.f xa xb = some false := by rw [before_is, Bool.eq_false_iff.2 hs]
              have HT2 : Aside0 (o ++ (L xb :: mg ((a.map L).drop i) ((b.map L).drop (k + 1))) = sortW (l.map L)) := ⟨by
                rw [← HT.out, hda, hdb, mg_right (Bool.eq_false_iff.2 hs)]⟩
              have hxa0 : wr.cell? (ada.add i) = some (.string xa) := by
                obtain ⟨ada2, ea2, hxa⟩ := Kd.at_string (Kd.C_below HCa.out HBw.out) (i : Int) (by omega) (by omega); cases ea2; rw [Int.toNat_natCast, hea] at hxa; exact hxa
              have hxb0 : wr.cell? (adb.add k) = some (.string xb) := by
                obtain ⟨adb2, eb2, hxb⟩ := Kd.at_string (Kd.C_below HCb.out HBw.out) (k : Int) (by omega) (by omega); cases eb2; rw [Int.toNat_natCast, heb] at hxb; exact hxb
              have hx4 : (k : Int) < (m : Int) := by omega
              go_wp2
              go_quiet (first | (go_at_call 68; go_loud (refine (pomaderef08_before.calls xa xb false _ hbef).mono ?_; rintro e w9 ⟨rfl, ⟨nd, rfl⟩⟩; exact ⟨rfl, _, World.drewN_drewN ..⟩)))
              obtain ⟨W, hW⟩ : ∃ W, wr.drewN nq = W := ⟨_, rfl⟩
              have HB3 : Aside0 (Below w2.heap.size w2 W) := ⟨hW ▸ pw_below_drewN HBw.out _⟩
              have HO3 : Aside0 (W.ownsRow w2.heap.size 9 1 u (i + k) ((o.map B).map Value.string)) := ⟨hW ▸ pw_own_below HO.out (pw_below_drewN (Below.refl _ _) _)⟩
              obtain ⟨ada2, ea2, hxa⟩ := Kd.at_string (Kd.C_below HCa.out HB3.out) (i : Int) (by omega) (by omega); cases ea2; rw [Int.toNat_natCast, hea] at hxa
              obtain ⟨adb2, eb2, hxb⟩ := Kd.at_string (Kd.C_below HCb.out HB3.out) (k : Int) (by omega) (by omega); cases eb2; rw [Int.toNat_natCast, heb] at hxb
              rw [hW]
              clear hW HO HBw hxa0 hxb0
              go_wp2_with (at_builtin; go_loud (refine wpList_append_lies _ rfl _ _ 32 rfl w2.heap.size 9 i0 (.string ByteArray.empty) 1 16 Tryd.underlying32 hi hz0 hz1 hz2 rfl (by decide) _ _ _ rfl (HO3.out.alloc _) ⟨W.heap.size, 0, none⟩ 1 1 [.string xb] rfl rfl ?c1 ?c2 (by decide) ?c3 ?c4 ?c5 (W.heap.size + 1) (by simp) ?_))
              case c1 => exact cell_one_new _ _ _
              case c2 => intro u hu; simp at hu; subst hu; rfl
              case c3 => unfold maxLen; omega
              case c4 => omega
              case c5 => have := HB3.out.size; simp; omega
              intro g cap w4 hown4 hgrow4 hat4 hlt4
              have hsz1 : (W.alloc (.cells #[.string xb] 9)).heap.size = W.heap.size + 1 := by simp
              have HO4 : Aside0 (w4.ownsRow w2.heap.size 9 1 (.slice (some ⟨g, 0, none⟩) (i + k + 1) cap) (i + k + 1) (((o ++ [L xb]).map B).map Value.string)) := ⟨by
                have e2 : ((o ++ [L xb]).map B).map Value.string = (o.map B).map Value.string ++ [.string xb] := by simp [B_L]
                rw [e2]
                simpa using hown4⟩
              have HBw4 : Aside0 (Below w2.heap.size w2 w4) := ⟨pw_below_grown (below_alloc HB3.out _) _ (by have := HB3.out.size; rw [hsz1]; omega) hgrow4 (fun k hk => own_base HO3.out k hk)⟩
              clear hown4 hgrow4 hat4
              go_wp2
              go_roundg q
              case measure => omega
              case rel => exact ⟨i, k + 1, _, o ++ [L xb], rfl, by go_num, by go_num, by omega, by omega, by omega, by rw [List.length_append, List.length_singleton]; omega, ⟨by rw [← HT2.out, List.append_assoc]; rfl⟩, ⟨by rw [show i + k + 1 = i + k + 1 by omega]; exact HO4.out⟩, HBw4⟩
          · obtain rfl : k = m := by omega
            have hx2 : ((k : Int) == (k : Int)) = true := beq_self_eq_true _
            have hdb : (b.map L).drop k = [] := List.drop_of_length_le (by rw [List.length_map]; omega)
            have HT2 : Aside0 (o ++ (L xa :: mg ((a.map L).drop (i + 1)) ((b.map L).drop k)) = sortW (l.map L)) := ⟨by
              rw [← HT.out, hda, hdb, mg_nil_right]⟩
            go_wp2
            go_quiet (fail)
            obtain ⟨W, hW⟩ : ∃ W, wr.drewN nq = W := ⟨_, rfl⟩
            have HB3 : Aside0 (Below w2.heap.size w2 W) := ⟨hW ▸ pw_below_drewN HBw.out _⟩
            have HO3 : Aside0 (W.ownsRow w2.heap.size 9 1 u (i + k) ((o.map B).map Value.string)) := ⟨hW ▸ pw_own_below HO.out (pw_below_drewN (Below.refl _ _) _)⟩
            obtain ⟨ada2, ea2, hxa⟩ := Kd.at_string (Kd.C_below HCa.out HB3.out) (i : Int) (by omega) (by omega); cases ea2; rw [Int.toNat_natCast, hea] at hxa
            rw [hW]
            clear hW HO HBw
            go_wp2_with (at_builtin; go_loud (refine wpList_append_lies _ rfl _ _ 32 rfl w2.heap.size 9 i0 (.string ByteArray.empty) 1 16 Tryd.underlying32 hi hz0 hz1 hz2 rfl (by decide) _ _ _ rfl (HO3.out.alloc _) ⟨W.heap.size, 0, none⟩ 1 1 [.string xa] rfl rfl ?c1 ?c2 (by decide) ?c3 ?c4 ?c5 (W.heap.size + 1) (by simp) ?_))
            case c1 => exact cell_one_new _ _ _
            case c2 => intro u hu; simp at hu; subst hu; rfl
            case c3 => unfold maxLen; omega
            case c4 => omega
            case c5 => have := HB3.out.size; simp; omega
            intro g cap w4 hown4 hgrow4 hat4 hlt4
            have hsz1 : (W.alloc (.cells #[.string xa] 9)).heap.size = W.heap.size + 1 := by simp
            have HO4 : Aside0 (w4.ownsRow w2.heap.size 9 1 (.slice (some ⟨g, 0, none⟩) (i + k + 1) cap) (i + k + 1) (((o ++ [L xa]).map B).map Value.string)) := ⟨by
              have e2 : ((o ++ [L xa]).map B).map Value.string = (o.map B).map Value.string ++ [.string xa] := by simp [B_L]
              rw [e2]
              simpa using hown4⟩
            have HBw4 : Aside0 (Below w2.heap.size w2 w4) := ⟨pw_below_grown (below_alloc HB3.out _) _ (by have := HB3.out.size; rw [hsz1]; omega) hgrow4 (fun k hk => own_base HO3.out k hk)⟩
            clear hown4 hgrow4 hat4
            go_wp2
            go_roundg q
            case measure => omega
            case rel => exact ⟨i + 1, k, _, o ++ [L xa], rfl, by go_num, by go_num, by omega, by omega, by omega, by rw [List.length_append, List.length_singleton]; omega, ⟨by rw [← HT2.out, List.append_assoc]; rfl⟩, ⟨by rw [show i + 1 + k = i + k + 1 by omega]; exact HO4.out⟩, HBw4⟩
        · obtain rfl : i = h := by omega
          have hx1 : ¬ ((i : Int) < (i : Int)) := by omega
          have hx1d : decide ((i : Int) < (i : Int)) = false := decide_eq_false hx1
          have hda : (a.map L).drop i = [] := List.drop_of_length_le (by rw [List.length_map]; omega)
          by_cases hk1 : k < m
          · have hx2 : ((k : Int) == (m : Int)) = false := beq_eq_false_iff_ne.2 (by omega)
            have hx3 : (k : Int) < (m : Int) := by omega
            obtain ⟨q, rfl⟩ : ∃ q, gk = q + 1 := ⟨gk - 1, by omega⟩
            obtain ⟨adb, rfl, _⟩ := Kd.at_string HCb.out (k : Int) (by omega) (by omega)
            obtain ⟨xb, heb⟩ : ∃ xb, rdOf ByteArray.empty b (k : Int) = xb := ⟨_, rfl⟩
            have hdb : (b.map L).drop k = L xb :: (b.map L).drop (k + 1) := by
              rw [← heb]; exact drop_rd b k (by omega)
            have HT2 : Aside0 (o ++ (L xb :: mg ((a.map L).drop i) ((b.map L).drop (k + 1))) = sortW (l.map L)) := ⟨by
              rw [← HT.out, hda, hdb, mg_nil_left]⟩
            go_wp2
            go_quiet (fail)
            obtain ⟨W, hW⟩ : ∃ W, wr.drewN nq = W := ⟨_, rfl⟩
            have HB3 : Aside0 (Below w2.heap.size w2 W) := ⟨hW ▸ pw_below_drewN HBw.out _⟩
            have HO3 : Aside0 (W.ownsRow w2.heap.size 9 1 u (i + k) ((o.map B).map Value.string)) := ⟨hW ▸ pw_own_below HO.out (pw_below_drewN (Below.refl _ _) _)⟩
            obtain ⟨adb2, eb2, hxb⟩ := Kd.at_string (Kd.C_below HCb.out HB3.out) (k : Int) (by omega) (by omega); cases eb2; rw [Int.toNat_natCast, heb] at hxb
            rw [hW]
            clear hW HO HBw
            go_wp2_with (at_builtin; go_loud (refine wpList_append_lies _ rfl _ _ 32 rfl w2.heap.size 9 i0 (.string ByteArray.empty) 1 16 Tryd.underlying32 hi hz0 hz1 hz2 rfl (by decide) _ _ _ rfl (HO3.out.alloc _) ⟨W.heap.size, 0, none⟩ 1 1 [.string xb] rfl rfl ?c1 ?c2 (by decide) ?c3 ?c4 ?c5 (W.heap.size + 1) (by simp) ?_))
            case c1 => exact cell_one_new _ _ _
            case c2 => intro u hu; simp at hu; subst hu; rfl
            case c3 => unfold maxLen; omega
            case c4 => omega
            case c5 => have := HB3.out.size; simp; omega
            intro g cap w4 hown4 hgrow4 hat4 hlt4
            have hsz1 : (W.alloc (.cells #[.string xb] 9)).heap.size = W.heap.size + 1 := by simp
            have HO4 : Aside0 (w4.ownsRow w2.heap.size 9 1 (.slice (some ⟨g, 0, none⟩) (i + k + 1) cap) (i + k + 1) (((o ++ [L xb]).map B).map Value.string)) := ⟨by
              have e2 : ((o ++ [L xb]).map B).map Value.string = (o.map B).map Value.string ++ [.string xb] := by simp [B_L]
              rw [e2]
              simpa using hown4⟩
            have HBw4 : Aside0 (Below w2.heap.size w2 w4) := ⟨pw_below_grown (below_alloc HB3.out _) _ (by have := HB3.out.size; rw [hsz1]; omega) hgrow4 (fun k hk => own_base HO3.out k hk)⟩
            clear hown4 hgrow4 hat4
            go_wp2
            go_roundg q
            case measure => omega
            case rel => exact ⟨i, k + 1, _, o ++ [L xb], rfl, by go_num, by go_num, by omega, by omega, by omega, by rw [List.length_append, List.length_singleton]; omega, ⟨by rw [← HT2.out, List.append_assoc]; rfl⟩, ⟨by rw [show i + k + 1 = i + k + 1 by omega]; exact HO4.out⟩, HBw4⟩
          · obtain rfl : k = m := by omega
            have hx3 : ¬ ((k : Int) < (k : Int)) := by omega
            have hdb : (b.map L).drop k = [] := List.drop_of_length_le (by rw [List.length_map]; omega)
            have hT := HT.out
            rw [hda, hdb, mg_nil, List.append_nil] at hT
            have e1 : i + k = l.length := by omega
            rw [e1, hT] at HO
            obtain rfl : gk = 0 := by omega
            go_wp2
            go_ret
            obtain ⟨pb, cp, rfl, hcp, hCp⟩ := own_formS HO.out
            exact ⟨pb, cp, rfl, hcp, hCp, HB2.out.trans (HBw.out.mono HB2.out.size), (by first | exact .inr (own_less HO.out HB2.out.size) | exact own_less HO.out HB2.out.size)⟩

end Go.Proofs.YtcjbnonjhahakaaDoor.Hand
