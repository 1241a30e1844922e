/- A part of the proof that pomadetop.TopTold returns true for every input: HandA, Base0, Base1, HandC. No condition beyond those that each theorem states. -/
import Derived.Test.YtldohjlcckbfaaaGreatDoorK14
namespace Go.Proofs.YtldohjlcckbfaaaGreatDoor.Hand
open Go.RowKit Go.Proofs.YtldohjlcckbfaaaGreatDoorW.PrintWords Go.Proofs.YtldohjlcckbfaaaGreatDoorW.PrintLast Go.Proofs.YtldohjlcckbfaaaGreatDoorW.PrintMore
set_option linter.unusedVariables false
set_option linter.unusedSimpArgs false
def outBA (x m : Int) : Bool := decide (x < 0) || decide (m ≤ x)
set_option maxRecDepth 100000 in
theorem wished1 (x m : Int) (c : Addr) (w : World) (hm : w.cell? c = some (.int .i64 m)) :
    Calls Tryz.prog 49 #[.int .i64 x, .pointer (some c)] w fun e w' => e = .returned (.bool (outBA x m)) ∧ w = w' := by
  by_cases h1 : x < 0
  · have h1' : decide (x < 0) = true := decide_eq_true h1
    have e : outBA x m = true := by unfold outBA; rw [h1']; rfl
    have E := Aside0.mk e
    clear e h1
    go_enter Tryz.func49, Tryz.ntmps49
    go_wp2
    go_ret
    exact ⟨by rw [E.out]; rfl, rfl⟩
  · have h1' : decide (x < 0) = false := decide_eq_false h1
    have e : outBA x m = decide (m ≤ x) := by unfold outBA; rw [h1']; rfl
    have E := Aside0.mk e
    clear e h1
    go_enter Tryz.func49, Tryz.ntmps49
    go_wp2
    go_ret
    exact ⟨by rw [E.out]; rfl, rfl⟩
def idxO (m : Int) : List Int → Nat → Int
  | [], _ => -1
  | x :: l, i => if outBA x m = true then (i : Int) else idxO m l (i + 1)
theorem idxO_neg (m : Int) : ∀ (l : List Int) (i : Nat), decide (0 ≤ idxO m l i) = l.any (outBA · m)
  | [], i => by simp [idxO]
  | x :: l, i => by
    rw [idxO, List.any_cons]
    by_cases h : outBA x m = true
    · rw [if_pos h, h]; simp
    · rw [if_neg h, idxO_neg m l (i + 1), Bool.eq_false_iff.2 h]; rfl
set_option maxHeartbeats 1000000 in
set_option maxRecDepth 100000 in
theorem indexFunc (A0 : Option Addr) (c0 : Nat) (l0 : List Int) (m : Int) (c : Addr) (w : World) (hr0 : Kd.C (Kd.int .i64) w A0 l0.length l0) (hL : l0.length ≤ 100) (hm : w.cell? c = some (.int .i64 m)) (r : Int) (h : idxO m l0 0 = r) :
    Calls Tryz.prog 91 #[.slice A0 l0.length c0, .func (.func 49) #[] #[.pointer (some c)]] w fun e w' => e = .returned (.int .i64 r) ∧ w = w' := by
  have HC := Aside0.mk hr0
  have HM := Aside0.mk hm
  have H0 := Aside0.mk h
  clear hr0 hm h
  go_enter Tryz.func91, Tryz.ntmps91
  go_wp2
  go_loopg [8] l0.length (fun q v8 wr => ∃ i : Nat, wr = w ∧ v8 = .int .i64 i ∧ i + q = l0.length ∧ Aside0 (idxO m (l0.drop i) i = r))
  case atStart => exact ⟨0, rfl, rfl, by omega, ⟨by rw [List.drop_zero]; exact H0.out⟩⟩
  case round =>
    clear H0
    obtain ⟨i, rfl, rfl, hiq, HR⟩ := hrel
    by_cases hlt : i < l0.length
    · obtain ⟨q, rfl⟩ : ∃ q, gk = q + 1 := ⟨gk - 1, by omega⟩
      obtain ⟨ad, e1, hx0⟩ := Kd.at_int HC.out (i : Int) (by omega) (by omega)
      subst e1
      rw [Int.toNat_natCast] at hx0
      have hr := HR.out
      rw [List.drop_eq_getElem_cons hlt, idxO] at hr
      have hrd : rd l0 (i : Int) = l0[i] := by unfold rd; rw [Int.toNat_natCast, List.getD_eq_getElem?_getD, List.getElem?_eq_getElem hlt]; rfl
      rw [← hrd] at hr
      have HR2 := Aside0.mk hr
      clear hr HR hrd
      have hd : decide ((i : Int) < (l0.length : Int)) = true := decide_eq_true (by omega)
      by_cases hb : outBA (rd l0 (i : Int)) m = true
      · have H2 := Aside0.mk (show (i : Int) = r by have := HR2.out; rwa [if_pos hb] at this)
        clear HR2
        go_wp2_with (go_at_call 49; refine (wished1 _ m c _ HM.out).mono ?_; rintro e w1 ⟨rfl, rfl⟩)
        go_ret
        exact ⟨by rw [← H2.out]; rfl, rfl⟩
      · have hb' := Bool.eq_false_iff.2 hb
        have H2 := Aside0.mk (show idxO m (l0.drop (i + 1)) (i + 1) = r by have := HR2.out; rwa [if_neg hb] at this)
        have hw : wrap64 ((i : Int) + 1) = (i : Int) + 1 := by unfold wrap64; omega
        clear HR2 hb
        go_wp2_with (go_at_call 49; refine (wished1 _ m c _ HM.out).mono ?_; rintro e w1 ⟨rfl, rfl⟩)
        go_roundg q
        case measure => omega
        case rel => exact ⟨i + 1, rfl, by rw [Int.natCast_succ], by omega, H2⟩
    · obtain rfl : gk = 0 := by omega
      obtain rfl : i = l0.length := by omega
      have hd : decide ((l0.length : Int) < (l0.length : Int)) = false := decide_eq_false (by omega)
      have hr := HR.out
      rw [List.drop_length, idxO] at hr
      have H2 := Aside0.mk hr
      clear HR hr
      go_wp2
      go_ret
      exact ⟨by rw [← H2.out]; rfl, rfl⟩
set_option maxHeartbeats 1000000 in
set_option maxRecDepth 100000 in
theorem containsFunc (A0 : Option Addr) (c0 : Nat) (l0 : List Int) (m : Int) (c : Addr) (w : World) (hr0 : Kd.C (Kd.int .i64) w A0 l0.length l0) (hL : l0.length ≤ 100) (hm : w.cell? c = some (.int .i64 m)) (r : Bool) (h : l0.any (outBA · m) = r) :
    Calls Tryz.prog 48 #[.slice A0 l0.length c0, .func (.func 49) #[] #[.pointer (some c)]] w fun e w' => e = .returned (.bool r) ∧ w = w' := by
  have H := Aside0.mk (idxO_neg m l0 0)
  have HR := Aside0.mk h
  have HC := Aside0.mk hr0
  clear hr0 h
  go_enter Tryz.func48, Tryz.ntmps48
  go_wp2_with (go_at_call 91; refine (indexFunc A0 c0 l0 m c _ HC.out hL hm _ rfl).mono ?_; rintro e w1 ⟨rfl, rfl⟩)
  go_ret
  refine ⟨?_, rfl⟩
  show Ending.returned (.bool (decide (0 ≤ idxO m l0 0))) = _
  rw [H.out, HR.out]
def chairs_wished.f (m : Int) (l : List Int) : Option Int := if m < 1 then some 2 else if m > 30 then some 2 else if (l.length : Int) > m then some 3 else if l.any (outBA · m) = true then some 2 else some 0
set_option maxHeartbeats 1000000 in
set_option maxRecDepth 100000 in
theorem chairs_wished.calls (a0 : Int) (A1 : Option Addr) (c1 : Nat) (l1 : List Int) (r : Int) (w : World) (hr1 : Kd.C (Kd.int .i64) w A1 l1.length l1) (hc1 : l1.length ≤ c1) (h : chairs_wished.f a0 l1 = some r) :
    Calls Tryz.prog 23 #[.int .i64 a0, .slice A1 l1.length c1] w fun e w' => e = .returned (.int .i64 r) ∧ Below w.heap.size w w' := by
  have hmf : ∀ (fn : Fn) (first cap : Array Value) (w : World), (Instr.makeFunc fn first cap).run Tryz.prog w = .ok (.func fn first cap) w := fun _ _ _ _ => rfl
  have H := h
  have HC := Aside0.mk hr1
  clear hr1 h
  have hB := fun o => below_alloc (Below.refl w.heap.size w) o
  unfold chairs_wished.f at H
  by_cases c1 : a0 < 1
  · rw [if_pos c1] at H
    obtain rfl := Option.some.inj H
    have c1' : decide (a0 < 1) = true := decide_eq_true c1
    clear c1
    go_enter Tryz.func23, Tryz.ntmps23
    go_wp2
    go_ret
    exact ⟨rfl, hB _⟩
  · rw [if_neg c1] at H
    have c1' : decide (a0 < 1) = false := decide_eq_false c1
    by_cases c2 : a0 > 30
    · rw [if_pos c2] at H
      obtain rfl := Option.some.inj H
      have c2' : decide (30 < a0) = true := decide_eq_true c2
      clear c1 c2
      go_enter Tryz.func23, Tryz.ntmps23
      go_wp2
      go_ret
      exact ⟨rfl, hB _⟩
    · rw [if_neg c2] at H
      have c2' : decide (30 < a0) = false := decide_eq_false c2
      by_cases c3 : (l1.length : Int) > a0
      · rw [if_pos c3] at H
        obtain rfl := Option.some.inj H
        have c3' : decide (a0 < (l1.length : Int)) = true := decide_eq_true c3
        clear c1 c2 c3
        go_enter Tryz.func23, Tryz.ntmps23
        go_wp2
        go_ret
        exact ⟨rfl, hB _⟩
      · rw [if_neg c3] at H
        have c3' : decide (a0 < (l1.length : Int)) = false := decide_eq_false c3
        have hL : l1.length ≤ 100 := by omega
        have hC2 := fun o => Kd.C_below HC.out (below_alloc (Below.refl _ w) o)
        by_cases c4 : l1.any (outBA · a0) = true
        · rw [if_pos c4] at H
          obtain rfl := Option.some.inj H
          have C4 := Aside0.mk c4
          clear c1 c2 c3 c4
          go_enter Tryz.func23, Tryz.ntmps23
          go_wp2_with (go_at_call 48; refine (containsFunc A1 _ l1 a0 ⟨w.heap.size, 0, none⟩ _ (hC2 _) hL (by simp [World.cell?_alloc_at]) true C4.out).mono ?_; rintro e w1 ⟨rfl, rfl⟩)
          go_ret
          exact ⟨rfl, hB _⟩
        · rw [if_neg c4] at H
          obtain rfl := Option.some.inj H
          have C4 := Aside0.mk (Bool.eq_false_iff.2 c4)
          clear c1 c2 c3 c4
          go_enter Tryz.func23, Tryz.ntmps23
          go_wp2_with (go_at_call 48; refine (containsFunc A1 _ l1 a0 ⟨w.heap.size, 0, none⟩ _ (hC2 _) hL (by simp [World.cell?_alloc_at]) false C4.out).mono ?_; rintro e w1 ⟨rfl, rfl⟩)
          go_ret
          exact ⟨rfl, hB _⟩
end Go.Proofs.YtldohjlcckbfaaaGreatDoor.Hand
namespace Go.Proofs.YtldohjlcckbfaaaGreatDoor.Base
open Go.RowKit Go.Proofs.YtldohjlcckbfaaaGreatDoor.Hand Go.Proofs.YtldohjlcckbfaaaGreatDoor.Pre Go.Proofs.YtldohjlcckbfaaaGreatDoorW.PrintWords Go.Proofs.YtldohjlcckbfaaaGreatDoorW.PrintLast Go.Proofs.YtldohjlcckbfaaaGreatDoorW.PrintMore
attribute [local go_sem] max2_int min2_int max_two min_two max_three min_three max_four min_four   -- for this text's walks alone
set_option linter.unusedVariables false
set_option linter.unusedSimpArgs false
def errW : Option Int → Value
  | none => .nilIface
  | some c => .iface 0 (.int .i64 c)
theorem errW_none : errW none = .nilIface := rfl
theorem errW_some (c : Int) : errW (some c) = .iface 0 (.int .i64 c) := rfl
end Go.Proofs.YtldohjlcckbfaaaGreatDoor.Base
namespace Go.Proofs.YtldohjlcckbfaaaGreatDoor.Base
open Go.RowKit Go.Proofs.YtldohjlcckbfaaaGreatDoor.Hand Go.Proofs.YtldohjlcckbfaaaGreatDoor.Pre Go.Proofs.YtldohjlcckbfaaaGreatDoorW.PrintWords Go.Proofs.YtldohjlcckbfaaaGreatDoorW.PrintLast Go.Proofs.YtldohjlcckbfaaaGreatDoorW.PrintMore
attribute [local go_sem] max2_int min2_int max_two min_two max_three min_three max_four min_four   -- for this text's walks alone
set_option linter.unusedVariables false
set_option linter.unusedSimpArgs false
def till_balanced.f (k : Nat) (a0 : ByteArray) : Option (Int) := (till_walked.f a0).bind fun t101 => (if t101 = 0 then ((till_path.f k a0).bind fun t102 => (if 0 ≤ (a0.size : Int) then (if (a0.size : Int) < (t102.length : Int) then (if (rd t102 (a0.size : Int)) = 0 then (some 0) else (some 2)) else (none)) else (none))) else (some t101))
set_option maxHeartbeats 8000000 in
set_option maxRecDepth 100000 in
theorem till_balanced.calls (k : Nat) (a0 : ByteArray) (r : Int) (w : World) (h : till_balanced.f k a0 = some r) :
  Calls Tryz.prog 43 #[.string a0] w fun e w' => e = .returned (.int .i64 r) ∧ Below w.heap.size w w' := by
 have HB := Aside0.mk (Below.refl w.heap.size w)
 have H : ((till_walked.f a0).bind fun t101 => (if t101 = 0 then ((till_path.f k a0).bind fun t102 => (if 0 ≤ (a0.size : Int) then (if (a0.size : Int) < (t102.length : Int) then (if (rd t102 (a0.size : Int)) = 0 then (some 0) else (some 2)) else (none)) else (none))) else (some t101))) = some r := h
 clear h
 replace H := Option.bind_eq_some_iff.mp H
 obtain ⟨t101, A20, H⟩ := H
 replace H : (if t101 = 0 then ((till_path.f k a0).bind fun t102 => (if 0 ≤ (a0.size : Int) then (if (a0.size : Int) < (t102.length : Int) then (if (rd t102 (a0.size : Int)) = 0 then (some 0) else (some 2)) else (none)) else (none))) else (some t101)) = some r := H
 have A2 := Aside0.mk A20
 clear A20
 by_cases c3 : t101 = 0
 ·rw [if_pos c3] at H
  have c3b0 : (t101 == 0) = true := beq_iff_eq.mpr c3
  have c3b1 : (t101 != 0) = false := bne_eq_false_iff_eq.mpr c3
  clear c3
  replace H := Option.bind_eq_some_iff.mp H
  obtain ⟨t102, A40, H⟩ := H
  replace H : (if 0 ≤ (a0.size : Int) then (if (a0.size : Int) < (t102.length : Int) then (if (rd t102 (a0.size : Int)) = 0 then (some 0) else (some 2)) else (none)) else (none)) = some r := H
  have A4 := Aside0.mk A40
  clear A40
  by_cases c5 : 0 ≤ (a0.size : Int)
  ·rw [if_pos c5] at H
   have c5b0 : decide (0 ≤ (a0.size : Int)) = true := decide_eq_true c5
   have c5b1 : decide (0 ≤ a0.size) = true := decide_eq_true (by omega)
   clear c5
   by_cases c6 : (a0.size : Int) < (t102.length : Int)
   ·rw [if_pos c6] at H
    have c6b0 : decide ((a0.size : Int) < (t102.length : Int)) = true := decide_eq_true c6
    have c6b1 : decide (a0.size < t102.length) = true := decide_eq_true (Int.ofNat_lt.mp c6)
    clear c6
    by_cases c7 : (rd t102 (a0.size : Int)) = 0
    ·rw [if_pos c7] at H
     have c7b0 : ((rd t102 (a0.size : Int)) == 0) = true := beq_iff_eq.mpr c7
     have c7b1 : ((rd t102 (a0.size : Int)) != 0) = false := bne_eq_false_iff_eq.mpr c7
     clear c7
     obtain rfl := Option.some.inj H
     go_enter Tryz.func43, Tryz.ntmps43
     go_wp2_with (first | ((with_reducible refine gate_callee (f := 79) rfl ?_); refine goesL_ (some 5) rfl rfl Tryz.func79 (by kernel_rfl) rfl #[.string a0] rfl (by (try simp only [List.map_toArray, List.map_cons, List.map_nil]); first | done | rfl | (simp only [List.length_drop, List.length_take]; rfl)) ?_; (with_reducible refine (till_walked.calls a0 t101 _ A2.out).mono ?_); rintro e w8 ⟨rfl, hb⟩; refine ⟨_, rfl, ?_⟩; have n0_ := Aside0.mk (below_step (by repeat (first | (with_reducible first | exact HB.out | apply below_alloc | apply pw_below_drewN | apply below_drew1) | exact HB.out)) hb); clear HB; have HB := n0_; clear n0_; (try clear hb); (try clear hb2); (try clear hk); (try clear hi)) | ((with_reducible refine gate_callee (f := 44) rfl ?_); refine goesL_ (some 10) rfl rfl Tryz.func44 (by kernel_rfl) rfl #[.string a0] rfl (by (try simp only [List.map_toArray, List.map_cons, List.map_nil]); first | done | rfl | (simp only [List.length_drop, List.length_take]; rfl)) ?_; (with_reducible refine (till_path.calls k a0 t102 _ A4.out).mono ?_); rintro e w9 ⟨v103, rfl, ho0, hb⟩; refine ⟨_, rfl, ?_⟩; have n0_ := Aside0.mk (Kd.R_lower ho0 (below_size (by repeat (first | (with_reducible first | exact HB.out | apply below_alloc | apply pw_below_drewN | apply below_drew1) | exact HB.out)))); have n1_ := Aside0.mk (below_step (by repeat (first | (with_reducible first | exact HB.out | apply below_alloc | apply pw_below_drewN | apply below_drew1) | exact HB.out)) hb); clear HB; have HO104 := n0_; have HB := n1_; clear n0_ n1_; (try clear hb); (try clear hb2); (try clear hk); (try clear hi); (try clear ho0); obtain ⟨Ao10, co10, eo10⟩ := Kd.R_slice HO104.out; subst eo10; have p105 : 0 ≤ ((a0.size : Int) : Int) := of_decide_eq_true (by first | (with_reducible assumption) | assumption); have q105 : (a0.size : Int) < (t102.length : Int) := of_decide_eq_true (by first | (with_reducible assumption) | assumption); obtain ⟨ad105, e105, hx105_0⟩ := Kd.at_int (Kd.R_reads' HO104.out).2.2 (a0.size : Int) p105 q105; cases e105; (try rw [Int.toNat_natCast] at hx105_0); replace p105 := eq_true p105; replace q105 := eq_true q105))
     go_ret
     exact ⟨by first | rfl | (simp [errW_none, errW_some] <;> rfl) | (simp [*, errW_none, errW_some] <;> rfl), by repeat (first | (with_reducible first | exact HB.out | apply below_alloc | apply pw_below_drewN | apply below_drew1) | exact HB.out)⟩
    ·rw [if_neg c7] at H
     have c7b0 : ((rd t102 (a0.size : Int)) == 0) = false := beq_eq_false_iff_ne.mpr c7
     have c7b1 : ((rd t102 (a0.size : Int)) != 0) = true := bne_iff_ne.mpr c7
     obtain rfl := Option.some.inj H
     go_enter Tryz.func43, Tryz.ntmps43
     go_wp2_with (first | ((with_reducible refine gate_callee (f := 79) rfl ?_); refine goesL_ (some 5) rfl rfl Tryz.func79 (by kernel_rfl) rfl #[.string a0] rfl (by (try simp only [List.map_toArray, List.map_cons, List.map_nil]); first | done | rfl | (simp only [List.length_drop, List.length_take]; rfl)) ?_; (with_reducible refine (till_walked.calls a0 t101 _ A2.out).mono ?_); rintro e w11 ⟨rfl, hb⟩; refine ⟨_, rfl, ?_⟩; have n0_ := Aside0.mk (below_step (by repeat (first | (with_reducible first | exact HB.out | apply below_alloc | apply pw_below_drewN | apply below_drew1) | exact HB.out)) hb); clear HB; have HB := n0_; clear n0_; (try clear hb); (try clear hb2); (try clear hk); (try clear hi)) | ((with_reducible refine gate_callee (f := 44) rfl ?_); refine goesL_ (some 10) rfl rfl Tryz.func44 (by kernel_rfl) rfl #[.string a0] rfl (by (try simp only [List.map_toArray, List.map_cons, List.map_nil]); first | done | rfl | (simp only [List.length_drop, List.length_take]; rfl)) ?_; (with_reducible refine (till_path.calls k a0 t102 _ A4.out).mono ?_); rintro e w12 ⟨v103, rfl, ho0, hb⟩; refine ⟨_, rfl, ?_⟩; have n0_ := Aside0.mk (Kd.R_lower ho0 (below_size (by repeat (first | (with_reducible first | exact HB.out | apply below_alloc | apply pw_below_drewN | apply below_drew1) | exact HB.out)))); have n1_ := Aside0.mk (below_step (by repeat (first | (with_reducible first | exact HB.out | apply below_alloc | apply pw_below_drewN | apply below_drew1) | exact HB.out)) hb); clear HB; have HO104 := n0_; have HB := n1_; clear n0_ n1_; (try clear hb); (try clear hb2); (try clear hk); (try clear hi); (try clear ho0); obtain ⟨Ao13, co13, eo13⟩ := Kd.R_slice HO104.out; subst eo13; have p105 : 0 ≤ ((a0.size : Int) : Int) := of_decide_eq_true (by first | (with_reducible assumption) | assumption); have q105 : (a0.size : Int) < (t102.length : Int) := of_decide_eq_true (by first | (with_reducible assumption) | assumption); obtain ⟨ad105, e105, hx105_0⟩ := Kd.at_int (Kd.R_reads' HO104.out).2.2 (a0.size : Int) p105 q105; cases e105; (try rw [Int.toNat_natCast] at hx105_0); replace p105 := eq_true p105; replace q105 := eq_true q105))
     go_ret
     exact ⟨by first | rfl | (simp [errW_none, errW_some] <;> rfl) | (simp [*, errW_none, errW_some] <;> rfl), by repeat (first | (with_reducible first | exact HB.out | apply below_alloc | apply pw_below_drewN | apply below_drew1) | exact HB.out)⟩
   ·rw [if_neg c6] at H
    exact absurd H (by simp)
  ·rw [if_neg c5] at H
   exact absurd H (by simp)
 ·rw [if_neg c3] at H
  have c3b0 : (t101 == 0) = false := beq_eq_false_iff_ne.mpr c3
  have c3b1 : (t101 != 0) = true := bne_iff_ne.mpr c3
  obtain rfl := Option.some.inj H
  go_enter Tryz.func43, Tryz.ntmps43
  go_wp2_with (first | ((with_reducible refine gate_callee (f := 79) rfl ?_); refine goesL_ (some 5) rfl rfl Tryz.func79 (by kernel_rfl) rfl #[.string a0] rfl (by (try simp only [List.map_toArray, List.map_cons, List.map_nil]); first | done | rfl | (simp only [List.length_drop, List.length_take]; rfl)) ?_; (with_reducible refine (till_walked.calls a0 t101 _ A2.out).mono ?_); rintro e w14 ⟨rfl, hb⟩; refine ⟨_, rfl, ?_⟩; have n0_ := Aside0.mk (below_step (by repeat (first | (with_reducible first | exact HB.out | apply below_alloc | apply pw_below_drewN | apply below_drew1) | exact HB.out)) hb); clear HB; have HB := n0_; clear n0_; (try clear hb); (try clear hb2); (try clear hk); (try clear hi)))
  go_ret
  exact ⟨by first | rfl | (simp [errW_none, errW_some] <;> rfl) | (simp [*, errW_none, errW_some] <;> rfl), by repeat (first | (with_reducible first | exact HB.out | apply below_alloc | apply pw_below_drewN | apply below_drew1) | exact HB.out)⟩
end Go.Proofs.YtldohjlcckbfaaaGreatDoor.Base
namespace Go.Proofs.YtldohjlcckbfaaaGreatDoor.Hand
open Go.RowKit Go.Proofs.YtldohjlcckbfaaaGreatDoorW.PrintWords Go.Proofs.YtldohjlcckbfaaaGreatDoorW.PrintLast Go.Proofs.YtldohjlcckbfaaaGreatDoorW.PrintMore
set_option linter.unusedVariables false
set_option linter.unusedSimpArgs false
open Go.Proofs.YtldohjlcckbfaaaGreatDoor.Pre Go.Proofs.YtldohjlcckbfaaaGreatDoor.Base
theorem signs_ascii {s : ByteArray} (h : signs s = true) : ∀ (i : Nat) (hi : i < s.size), (s[i]'hi).toNat < 128 := by
  intro i hi
  unfold signs at h
  rw [List.all_eq_true] at h
  have h1 := h (s[i]'hi) (by
    have : s[i]'hi = s.data[i]'hi := rfl
    rw [this]; exact Array.getElem_mem_toList hi)
  simp only [List.contains_cons, List.contains_nil, Bool.or_false, Bool.or_eq_true, beq_iff_eq] at h1
  rcases h1 with h1 | h1 <;> rw [h1] <;> decide
def abvFrom (b : List Int) : Nat → Nat → Int → Int
  | _, 0, m => m
  | i, d + 1, m => abvFrom b (i + 1) d (if rd b (i : Int) > 0 ∨ rd b ((i : Int) + 1) > 0 then m + 1 else m)
def till_Above.f (k : Nat) (s : ByteArray) : Option (Int × Int) := (till_balanced.f k s).bind fun e => if e = 0 then (till_path.f k s).bind fun b => if b.length = s.size + 1 ∧ signs s = true ∧ s.size ≤ 60 then some (abvFrom b 0 s.size 0, 0) else none else some (0, e)
set_option maxHeartbeats 2000000 in
set_option maxRecDepth 100000 in
theorem till_Above.calls (k : Nat) (a0 : ByteArray) (r1 r2 : Int) (w : World) (h : till_Above.f k a0 = some (r1, r2)) :
    Calls Tryz.prog 21 #[.string a0] w fun e w' => e = .returned (.tuple #[.int .i64 r1, .int .i64 r2]) ∧ Below w.heap.size w w' := by
  unfold till_Above.f at h
  obtain ⟨e, he, h⟩ := Option.bind_eq_some_iff.1 h
  have HE := Aside0.mk he
  by_cases h0 : e = 0
  · rw [if_pos h0] at h
    subst h0
    obtain ⟨b, hb, h⟩ := Option.bind_eq_some_iff.1 h
    by_cases hg : b.length = a0.size + 1 ∧ signs a0 = true ∧ a0.size ≤ 60
    · rw [if_pos hg] at h
      simp only [Option.some.injEq, Prod.mk.injEq] at h
      obtain ⟨hr, rfl⟩ := h
      have HB := Aside0.mk hb
      have HR := Aside0.mk hr
      have HG := Aside0.mk hg.1
      have HA := Aside0.mk (signs_ascii hg.2.1)
      have H60 := hg.2.2
      clear he hb hg hr h
      go_enter Tryz.func21, Tryz.ntmps21
      go_wp2_with (first | (go_at_call 43; refine (till_balanced.calls k a0 0 _ HE.out).mono ?_; rintro e w1 ⟨rfl, hb1⟩) | (go_at_call 44; refine (till_path.calls k a0 b _ HB.out).mono ?_; rintro e w2 ⟨v2, rfl, ho2, hb2⟩; obtain ⟨A2, c2, rfl⟩ := Kd.R_slice ho2))
      have HC := Aside0.mk (Kd.R_reads' ho2).2.2
      have HBel := Aside0.mk (hb1.trans (hb2.mono hb1.size))
      clear ho2 hb1 hb2 HE HB
      obtain ⟨b0, rfl, _⟩ := Kd.at_int HC.out 0 (by omega) (by have := HG.out; omega)
      go_loopg [6] a0.size (fun q v6 wr => ∃ (i : Nat) (m : Int), wr = w2.iter a0 i ∧ v6 = .int .i64 m ∧ i + q = a0.size ∧ 0 ≤ m ∧ m ≤ i ∧ Aside0 (abvFrom b i q m = r1))
      case atStart => exact ⟨0, 0, rfl, rfl, by omega, by omega, by omega, HR⟩
      case round =>
        clear HR
        obtain ⟨i, m, rfl, rfl, hiq, hm0, hm1, HR⟩ := hrel
        by_cases hlt : i < a0.size
        · obtain ⟨q, rfl⟩ : ∃ q, gk = q + 1 := ⟨gk - 1, by omega⟩
          have hnx := fun ty => run_next_ascii (P := Tryz.prog) w2 a0 i ty hlt (HA.out i hlt)
          have hCw : Kd.C (Kd.int .i64) (w2.iter a0 (i + 1)) (some b0) b.length b := Kd.C_below HC.out (below_alloc (Below.refl _ w2) (.stringIter a0 (i + 1)))
          obtain ⟨ad, e1, hx0⟩ := Kd.at_int hCw (i : Int) (by omega) (by have := HG.out; omega)
          cases e1
          obtain ⟨ad, e2, hx1⟩ := Kd.at_int hCw ((i : Int) + 1) (by omega) (by have := HG.out; omega)
          cases e2
          rw [Int.toNat_natCast] at hx0
          rw [show ((i : Int) + 1).toNat = i + 1 by omega, show b0.add (i + 1) = ⟨b0.block, b0.off + (i + 1), none⟩ by simp [Addr.add]] at hx1
          have hw : wrap64 ((i : Int) + 1) = (i : Int) + 1 := by unfold wrap64; omega
          have hwm : wrap64 (m + 1) = m + 1 := by unfold wrap64; omega
          have p0 : (i : Int) < (b.length : Int) := by have := HG.out; omega
          have p1 : (i : Int) + 1 < (b.length : Int) := by have := HG.out; omega
          clear hCw
          have hr := HR.out
          rw [abvFrom] at hr
          by_cases c0 : rd b (i : Int) > 0
          · rw [if_pos (.inl c0)] at hr
            have HR2 := Aside0.mk hr
            have hc : decide (0 < rd b (i : Int)) = true := decide_eq_true c0
            clear hr HR c0
            go_wp2
            go_roundg q
            case measure => omega
            case rel => exact ⟨i + 1, m + 1, rfl, rfl, by omega, by omega, by omega, HR2⟩
          · have hc : decide (0 < rd b (i : Int)) = false := decide_eq_false c0
            by_cases c1 : rd b ((i : Int) + 1) > 0
            · rw [if_pos (.inr c1)] at hr
              have HR2 := Aside0.mk hr
              have hc1 : decide (0 < rd b ((i : Int) + 1)) = true := decide_eq_true c1
              clear hr HR c0 c1
              go_wp2
              go_roundg q
              case measure => omega
              case rel => exact ⟨i + 1, m + 1, rfl, rfl, by omega, by omega, by omega, HR2⟩
            · rw [if_neg (by omega)] at hr
              have HR2 := Aside0.mk hr
              have hc1 : decide (0 < rd b ((i : Int) + 1)) = false := decide_eq_false c1
              clear hr HR c0 c1
              go_wp2
              go_roundg q
              case measure => omega
              case rel => exact ⟨i + 1, m, rfl, rfl, by omega, by omega, by omega, HR2⟩
        · obtain rfl : gk = 0 := by omega
          obtain rfl : i = a0.size := by omega
          have hnx := fun ty => run_next_end (P := Tryz.prog) w2 a0 a0.size ty (by omega)
          have hr := HR.out
          rw [abvFrom] at hr
          subst hr
          clear HR
          go_wp2
          go_ret2
          exact ⟨rfl, below_alloc HBel.out _⟩
    · rw [if_neg hg] at h; cases h
  · rw [if_neg h0] at h
    simp only [Option.some.injEq, Prod.mk.injEq] at h
    obtain ⟨rfl, rfl⟩ := h
    have h0' : (e != 0) = true := bne_iff_ne.2 h0
    clear he h0
    go_enter Tryz.func21, Tryz.ntmps21
    go_wp2_with (go_at_call 43; refine (till_balanced.calls k a0 e _ HE.out).mono ?_; rintro e w1 ⟨rfl, hb1⟩)
    go_ret2
    exact ⟨rfl, hb1⟩
end Go.Proofs.YtldohjlcckbfaaaGreatDoor.Hand
