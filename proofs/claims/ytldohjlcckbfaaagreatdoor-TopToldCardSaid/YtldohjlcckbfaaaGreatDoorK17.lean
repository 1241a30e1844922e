/- A part of the proof that pomadetop.TopTold returns true for every input: HandH2. No condition beyond those that each theorem states. -/
import Derived.Shelf.Abstract
import Derived.Test.YtldohjlcckbfaaaGreatDoorK16
namespace Go.Proofs.YtldohjlcckbfaaaGreatDoor.Hand
open Go.RowKit Go.Proofs.YtldohjlcckbfaaaGreatDoorW.PrintWords Go.Proofs.YtldohjlcckbfaaaGreatDoorW.PrintLast Go.Proofs.YtldohjlcckbfaaaGreatDoorW.PrintMore
set_option linter.unusedVariables false
set_option linter.unusedSimpArgs false
open Go.Proofs.YtldohjlcckbfaaaGreatDoor.Pre TopHooks
def hooksBad (n : Int) (l : List Int) : Bool := decide (n < 1) || decide (10 < n) || l.any (badI n)
set_option maxHeartbeats 4000000 in
set_option maxRecDepth 100000 in
theorem ordered_calls (n : Int) (l : List Int) (A : Option Addr) (c : Nat) (hl : l.length ≤ 200) (w : World) (h : Kd.C (Kd.int .i64) w A l.length l) :
    Calls Tryz.prog 36 #[.int .i64 n, .slice A l.length c] w fun e w' => e = .returned (.int .i64 (if hooksBad n l = true then 2 else 0)) ∧ Below w.heap.size w w' := by
  have hmf : ∀ (fn : Fn) (first cap : Array Value) (w : World), (Instr.makeFunc fn first cap).run Tryz.prog w = .ok (.func fn first cap) w := fun _ _ _ _ => rfl
  have H := Aside0.mk h
  have HX := Aside0.mk (show hooksBad n l = (decide (n < 1) || decide (10 < n) || l.any (badI n)) from rfl)
  obtain ⟨r, hr⟩ : ∃ r, hooksBad n l = r := ⟨_, rfl⟩
  rw [hr] at HX ⊢
  have HB := Aside0.mk (below_alloc (Below.refl _ w) (Obj.cells #[Value.int .i64 n] 3))
  clear h hr
  by_cases h1 : n < 1
  · have c1 : decide (n < 1) = true := decide_eq_true h1
    have hr : r = true := by rw [HX.out, c1]; rfl
    subst hr
    clear HX
    go_enter Tryz.func36, Tryz.ntmps36
    go_wp2
    go_ret
    exact ⟨rfl, HB.out⟩
  · have c1 : decide (n < 1) = false := decide_eq_false h1
    by_cases h2 : 10 < n
    · have c2 : decide (10 < n) = true := decide_eq_true h2
      have hr : r = true := by rw [HX.out, c1, c2]; rfl
      subst hr
      clear HX
      go_enter Tryz.func36, Tryz.ntmps36
      go_wp2
      go_ret
      exact ⟨rfl, HB.out⟩
    · have c2 : decide (10 < n) = false := decide_eq_false h2
      have hr : r = l.any (badI n) := by rw [HX.out, c1, c2]; rfl
      have c3 : decide (200 < (l.length : Int)) = false := decide_eq_false (by omega)
      have HC := Aside0.mk (containsFuncI 72 #[.pointer (some ⟨w.heap.size, 0, none⟩)] (enters_of Tryz.func72 (by kernel_rfl) rfl) l A c (by omega)
        (fun w' => w' = w.alloc (Obj.cells #[Value.int .i64 n] 3)) (fun w' e => by rw [e]; exact Kd.C_below H.out HB.out) (badI n)
        (fun x _ w' e => by
          subst e
          refine (bad_calls n x (by omega) (by omega) w.heap.size _ ?_).mono ?_
          · exact cellAt (heap_new w (Obj.cells #[Value.int .i64 n] 3))
          · rintro e w1 ⟨rfl, rfl⟩; exact ⟨rfl, rfl⟩) _ rfl)
      clear HX
      cases r with
      | true =>
        rw [← hr] at HC
        clear hr
        go_enter Tryz.func36, Tryz.ntmps36
        go_wp2_with (go_at_call 48; refine HC.out.mono ?_; rintro e w1 ⟨rfl, rfl⟩)
        go_ret
        exact ⟨rfl, HB.out⟩
      | false =>
        rw [← hr] at HC
        clear hr
        go_enter Tryz.func36, Tryz.ntmps36
        go_wp2_with (go_at_call 48; refine HC.out.mono ?_; rintro e w1 ⟨rfl, rfl⟩)
        go_ret
        exact ⟨rfl, HB.out⟩
set_option maxHeartbeats 4000000 in
set_option maxRecDepth 100000 in
theorem hooks_bad (n : Int) (l : List Int) (A : Option Addr) (c : Nat) (hl : l.length ≤ 200) (w : World) (h : Kd.C (Kd.int .i64) w A l.length l) (hb : hooksBad n l = true) :
    Calls Tryz.prog 17 #[.int .i64 n, .slice A l.length c] w fun e w' => e = .returned (.tuple #[.slice none 0 0, .int .i64 0, .int .i64 2]) ∧ Below w.heap.size w w' := by
  have HO := Aside0.mk (ordered_calls n l A c hl w h)
  rw [if_pos hb] at HO
  clear h hb
  go_enter Tryz.func17, Tryz.ntmps17
  go_wp2_with (go_at_call 36; refine HO.out.mono ?_; rintro e w1 ⟨rfl, hb1⟩; have HB1 := Aside0.mk hb1; clear hb1)
  go_ret3
  exact ⟨rfl, HB1.out⟩
set_option maxHeartbeats 4000000 in
set_option maxRecDepth 100000 in
theorem hooks_good (n : Nat) (l : List Int) (A : Option Addr) (c : Nat) (hl : l.length ≤ 200) (w : World) (h : Kd.C (Kd.int .i64) w A l.length l) (hb : hooksBad n l = false) :
    Calls Tryz.prog 17 #[.int .i64 n, .slice A l.length c] w fun e w' => ∃ g, e = .returned (.tuple #[.slice (some ⟨g, 0, none⟩) (2 * n) (2 * n), .int .i64 (hk n l (ident n) 0).2, .int .i64 0]) ∧
      w'.heap[g]? = some (intsO (listOf n (hk n l (ident n) 0).1)) ∧ Inv n (hk n l (ident n) 0).1 ∧ (hk n l (ident n) 0).2 ≤ 100 * l.length ∧ Below w.heap.size w w' := by
  have HO := Aside0.mk (ordered_calls n l A c hl w h)
  rw [if_neg (by rw [hb]; simp)] at HO
  have hb0 := hb
  unfold hooksBad at hb
  simp only [Bool.or_eq_false_iff] at hb
  obtain ⟨⟨b1, b2⟩, b3⟩ := hb
  have n1 : 1 ≤ n := by have := of_decide_eq_false b1; omega
  have n2 : n ≤ 10 := by have := of_decide_eq_false b2; omega
  have HI := Aside0.mk (show ∀ i : Nat, i < l.length → ∃ m : Nat, rd l i = m ∧ m + 2 ≤ n by
    intro i hi
    have hg : rd l (i : Int) = l[i] := by unfold rd; rw [Int.toNat_natCast, List.getD_eq_getElem?_getD, List.getElem?_eq_getElem hi]; rfl
    have := List.any_eq_false.1 b3 l[i] (List.getElem_mem hi)
    unfold badI at this
    simp only [Bool.or_eq_true, decide_eq_true_eq, not_or] at this
    rw [hg]
    exact ⟨l[i].toNat, by omega, by omega⟩)
  have HC := Aside0.mk h
  obtain ⟨R, hR⟩ : ∃ R, hk n l (ident n) 0 = R := ⟨_, rfl⟩
  rw [hR]
  have HR := Aside0.mk hR
  clear h hb0 b1 b2 b3 hR
  go_enter Tryz.func17, Tryz.ntmps17
  go_wp2_with (first | (go_at_call 36; refine HO.out.mono ?_; rintro e w1 ⟨rfl, hb1⟩; have HB1 := Aside0.mk hb1; clear hb1) | (go_at_call 37; refine (identity_calls n (by omega) _).mono ?_; rintro e w2 ⟨rfl, h2, hb2⟩; have HB2 := Aside0.mk (HB1.out.trans (hb2.mono HB1.out.size)); have H2 := Aside0.mk h2; clear hb2 h2))
  obtain ⟨g0, hg0⟩ : ∃ g0, w1.heap.size = g0 := ⟨_, rfl⟩
  rw [hg0] at H2 ⊢
  clear hg0
  go_loopg [8, 9, 24] l.length (fun q v8 v9 v24 wr => ∃ (j g a : Nat) (d : Nat → Nat), v24 = .int .i64 j ∧ j + q = l.length ∧ v8 = .slice (some ⟨g, 0, none⟩) (2 * n) (2 * n) ∧ v9 = .int .i64 a ∧ a ≤ 100 * j ∧ Aside0 (Inv n d) ∧ Aside0 (hk n (l.drop j) d a = R) ∧ Aside0 (wr.heap[g]? = some (intsO (listOf n d))) ∧ Aside0 (Below w.heap.size w wr))
  case atStart => exact ⟨0, g0, 0, ident n, rfl, by omega, rfl, rfl, by omega, ⟨ident_inv n⟩, HR, H2, HB2⟩
  case round =>
    clear HO HB1 HB2 H2 HR
    obtain ⟨j, g, a, d, rfl, hjq, rfl, rfl, ha, HD, HR, HG, HB⟩ := hrel
    by_cases hlt : j < l.length
    · obtain ⟨q, rfl⟩ : ∃ q, gk = q + 1 := ⟨gk - 1, by omega⟩
      have hd : decide ((j : Int) < (l.length : Int)) = true := decide_eq_true (by omega)
      obtain ⟨ad, e1, x1⟩ := Kd.at_int (Kd.C_below HC.out HB.out) (j : Int) (by omega) (by omega)
      subst e1
      obtain ⟨m, hm, hmn⟩ := HI.out j hlt
      have HR2 := Aside0.mk (show hk n (l.drop (j + 1)) (TopHooks.out n d (hook n m)) (a + loops n d (hook n m)) = R by
        have := HR.out
        rw [List.drop_eq_getElem_cons hlt, hk] at this
        have hg : l[j] = (m : Int) := by rw [← hm]; unfold rd; rw [Int.toNat_natCast, List.getD_eq_getElem?_getD, List.getElem?_eq_getElem hlt]; rfl
        rwa [hg, Int.toNat_natCast] at this)
      rw [Int.toNat_natCast, hm] at x1
      have HK := Aside0.mk (hook_inv hmn)
      have HD2 := Aside0.mk (out_inv HD.out HK.out)
      have hlo := (loops_some HD.out HK.out).2
      have hq1 : rd (listOf n d) = rd (listOf n d) := rfl
      have gD := Aside0.mk (fun (i : Nat) (hi : i < 2 * n) => show rd (listOf n d) i = d i by unfold rd; rw [Int.toNat_natCast]; exact listOf_get hi)
      have gO := Aside0.mk (fun (i : Nat) (hi : i < 2 * n) => show rd (listOf n (hook n m)) i = hook n m i by unfold rd; rw [Int.toNat_natCast]; exact listOf_get hi)
      have L1 := Aside0.mk (listOf_length n d)
      have L2 := Aside0.mk (listOf_length n (hook n m))
      clear hm HR hq1
      go_wp2_with fail
      refine (hook_calls n m (by omega) hmn _).mono ?_
      rintro e w3 ⟨rfl, h3, hb3⟩
      have HB3 := Aside0.mk (HB.out.trans (hb3.mono HB.out.size))
      have HG3 := Aside0.mk (blk_below HG.out hb3)
      have H3 := Aside0.mk h3
      obtain ⟨g1, hg1⟩ : ∃ g1, wr.heap.size = g1 := ⟨_, rfl⟩
      rw [hg1] at H3 ⊢
      clear h3 hb3 HB HG hg1
      have HP := Aside0.mk (product_calls n (by omega) d (hook n m) HD.out HK.out (listOf n d) (listOf n (hook n m)) L1.out L2.out gD.out gO.out (some ⟨g, 0, none⟩) (some ⟨g1, 0, none⟩) (2 * n) (2 * n) w3 (intC HG3.out (by rw [L1.out]; omega)) (intC H3.out (by rw [L2.out]; omega)))
      rw [outL_all] at HP
      obtain ⟨lo, hloe⟩ : ∃ lo, loops n d (hook n m) = lo := ⟨_, rfl⟩
      rw [hloe] at HP HR2 hlo
      clear hloe
      go_wp2_with (go_at_call 38; refine HP.out.mono ?_; rintro e w4 ⟨rfl, h4, hb4⟩; have HB4 := Aside0.mk (HB3.out.trans (hb4.mono HB3.out.size)); have H4 := Aside0.mk h4; clear h4 hb4)
      go_roundg q
      case measure => omega
      case rel => exact ⟨j + 1, _, a + lo, _, by go_num, by omega, rfl, by go_num, by omega, HD2, HR2, H4, HB4⟩
    · obtain rfl : gk = 0 := by omega
      obtain rfl : j = l.length := by omega
      have hd : decide ((l.length : Int) < (l.length : Int)) = false := decide_eq_false (by omega)
      have hR := HR.out
      rw [List.drop_length, hk] at hR
      subst hR
      go_wp2
      go_ret3
      exact ⟨g, rfl, HG.out, HD.out, HB.out⟩
end Go.Proofs.YtldohjlcckbfaaaGreatDoor.Hand
