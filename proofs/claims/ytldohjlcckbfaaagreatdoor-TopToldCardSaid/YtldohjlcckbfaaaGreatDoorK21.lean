/- A part of the proof that pomadetop.TopTold returns true for every input: HandWe, HandWf. No condition beyond those that each theorem states. -/
import Derived.WalkMore
import Derived.WalkSpells
import Derived.LoopN
import Derived.Lib.SlBytesConst
import Derived.Test.YtldohjlcckbfaaaGreatDoorK20
namespace Go.Proofs.YtldohjlcckbfaaaGreatDoor.Hand
open Go.RowKit Go.Proofs.YtldohjlcckbfaaaGreatDoorW.PrintWords Go.Proofs.YtldohjlcckbfaaaGreatDoorW.PrintLast Go.Proofs.YtldohjlcckbfaaaGreatDoorW.PrintMore
set_option linter.unusedVariables false
set_option linter.unusedSimpArgs false
open Go.Proofs.YtldohjlcckbfaaaGreatDoor.Pre TopFar
abbrev farF (n : Nat) (S : List Int) (pl : Int) : Nat → Int := rnd n S pl (n * n)
def stepA (n : Nat) (pl : Int) (F : Nat → Int) (i : Nat) (a : Int) : Int := if (decide (endF n i pl = 0) && decide (0 ≤ F i) && (decide (a < 0) || decide (F i < F a.toNat))) = true then (i : Int) else a
def atN (n : Nat) (pl : Int) (F : Nat → Int) : Nat → Int
  | 0 => -1
  | i + 1 => stepA n pl F i (atN n pl F i)
theorem atN_in (n : Nat) (pl : Int) (F : Nat → Int) : ∀ i, atN n pl F i = -1 ∨ (0 ≤ atN n pl F i ∧ atN n pl F i < i ∧ 0 ≤ F (atN n pl F i).toNat)
  | 0 => .inl rfl
  | i + 1 => by
    rw [atN, stepA]
    split
    · rename_i c
      simp only [Bool.and_eq_true, decide_eq_true_eq] at c
      exact .inr ⟨by omega, by omega, by rw [Int.toNat_natCast]; exact c.1.2⟩
    · rcases atN_in n pl F i with h | ⟨h1, h2, h3⟩
      · exact .inl h
      · exact .inr ⟨h1, by omega, h3⟩
def pathF (n : Nat) (F : Nat → Int) : Nat → Nat → List Int
  | 0, _ => []
  | k + 1, a => if 1 < F a then (match (nbN n a).find? (fun j => decide (F j = F a - 1)) with | some j => (j : Int) :: pathF n F k j | none => []) else []
theorem pathF_stop (n : Nat) (F : Nat → Int) (k a : Nat) (h : ¬ 1 < F a) : pathF n F k a = [] := by
  cases k with
  | zero => rfl
  | succ k => rw [pathF, if_neg h]
theorem pathF_go (n : Nat) (F : Nat → Int) (k a j : Nat) (h : 1 < F a) (hf : (nbN n a).find? (fun j => decide (F j = F a - 1)) = some j) : pathF n F (k + 1) a = (j : Int) :: pathF n F k j := by
  rw [pathF, if_pos h, hf]
def bridgeF (n : Nat) (S : List Int) (pl : Int) : List Int :=
  if atN n pl (farF n S pl) (n * n) < 0 then [] else atN n pl (farF n S pl) (n * n) :: pathF n (farF n S pl) (n * n) (atN n pl (farF n S pl) (n * n)).toNat
def NilIf (R : List Int) (v : Value) : Prop := R = [] → v = .slice none 0 0
theorem find_at {l : List Nat} {p : Nat → Bool} {i : Nat} (hi : i < l.length) (h0 : ∀ j (hj : j < i), p (l[j]'(by omega)) = false) (h1 : p l[i] = true) : l.find? p = some l[i] := by
  rw [List.find?_eq_some_iff_getElem]
  exact ⟨h1, i, hi, rfl, fun j hj => by rw [h0 j hj]; rfl⟩
set_option maxHeartbeats 8000000 in
set_option maxRecDepth 100000 in
theorem bridge_calls (b n : Nat) (S : List Int) (pl : Int) (w : World) (h : BoardAt w b n S) (hs : StepsAt w) :
    Calls Tryz.prog 42 #[.pointer (some ⟨b, 0, none⟩), .int .u8 pl] w fun e w' => ∃ v, e = .returned v ∧ w'.ownsRow w.heap.size 3 1 v (bridgeF n S pl).length (nums .i64 (bridgeF n S pl)) ∧ NilIf (bridgeF n S pl) v ∧ Below w.heap.size w w' := by
  have hmf : ∀ (fn : Fn) (first cap : Array Value) (w : World), (Instr.makeFunc fn first cap).run Tryz.prog w = .ok (.func fn first cap) w := fun _ _ _ _ => rfl
  have n1 := h.lo
  have n2 := h.hi
  have HBd := Aside0.mk h
  have HSt := Aside0.mk hs
  have hnn : n * n ≤ 11 * 11 := Nat.mul_le_mul n2 n2
  have hn1 : 1 ≤ n * n := Nat.mul_le_mul n1 n1
  have HEnd := Aside0.mk (fun (i : Nat) (hi : i < n * n) => rounds_end (own := ownF S pl) (last := lastF n pl) (nb := nbN n) (N := n * n) (fun i _ j hj => nbN_lt hj) hi)
  have HBnd := Aside0.mk (show Bd (200 * (n * n : Nat)) (farF n S pl) from rounds_bd (by omega) (n * n))
  have B0 := below_alloc (Below.refl _ w) (Obj.cells #[Value.int .u8 pl] 5)
  have HF := Aside0.mk (far_calls b n S w.heap.size pl _ (h.below B0) (hs.below B0) (cellAt (heap_new w (Obj.cells #[Value.int .u8 pl] 5))))
  have HB0 := Aside0.mk B0
  rw [size_alloc] at HF
  have HPl := Aside0.mk (cellAt (heap_new w (Obj.cells #[Value.int .u8 pl] 5)))
  have info3 : (Tryz.prog.info? 3).map (fun i => (i.zero, i.size, i.bytes)) = some (some (.int .i64 0), 1, 8) := by kernel_rfl
  obtain ⟨i0, hi0, hz0, hz1, hz2⟩ := info_parts info3
  have HBr := Aside0.mk (show bridgeF n S pl = if atN n pl (farF n S pl) (n * n) < 0 then [] else atN n pl (farF n S pl) (n * n) :: pathF n (farF n S pl) (n * n) (atN n pl (farF n S pl) (n * n)).toNat from rfl)
  have HF2 := Aside0.mk (show farF n S pl = rnd n S pl (n * n) from rfl)
  obtain ⟨F, hF⟩ : ∃ F, farF n S pl = F := ⟨_, rfl⟩
  obtain ⟨R, hR⟩ : ∃ R, bridgeF n S pl = R := ⟨_, rfl⟩
  rw [hF] at HBr HBnd HF2
  rw [hR] at HBr ⊢
  rw [← HF2.out] at HF
  have HEnd : Aside0 (∀ (i : Nat), i < n * n → 0 ≤ F i → 1 ≤ F i ∧ F i ≤ ((n * n : Nat) : Int) ∧ (1 < F i → ∃ j ∈ nbN n i, F j = F i - 1)) := ⟨by rw [HF2.out]; exact HEnd.out⟩
  obtain ⟨N, hN⟩ : ∃ N, n * n = N := ⟨_, rfl⟩
  have HN := Aside0.mk hN
  rw [hN] at HF HEnd HBnd HBr hnn hn1
  have hlt := (h.cells).choose_spec.choose_spec.1
  have hlt := World.block_lt_of_cell? _ _ hlt
  clear h hs B0 hF hR hN info3 HF2
  go_enter Tryz.func42, Tryz.ntmps42
  go_wp2
  go_step3
  go_wp2_with (go_at_call 75; refine HF.out.mono ?_; rintro e w1 ⟨g, rfl, h1, hb1⟩; have H1 := Aside0.mk h1; have HB1 := Aside0.mk (HB0.out.trans (hb1.mono (Nat.le_succ _))); have HP1 := Aside0.mk (pw_cell_below (by rw [size_alloc]; exact hb1) HPl.out); clear h1 hb1)
  obtain ⟨B, hB⟩ : ∃ B, w.heap.size = B := ⟨_, rfl⟩
  have HZ := Aside0.mk hB
  rw [hB] at HB1 HP1 ⊢
  rw [hB] at hlt
  clear hB HF HB0 HPl
  go_loopg [6, 20] N (fun q v6 v20 wr => ∃ (i : Nat), v20 = .int .i64 i ∧ i + q = N ∧ v6 = .int .i64 (atN n pl F i) ∧ Aside0 (wr.heap[g]? = some (intsO (valsL F N))) ∧ Aside0 (wr.cell? ⟨B, 0, none⟩ = some (.int .u8 pl)) ∧ Aside0 (Below B w wr))
  case atStart => exact ⟨0, rfl, by omega, rfl, H1, HP1, HB1⟩
  case round =>
    clear H1 HP1 HB1
    obtain ⟨i, rfl, hiq, rfl, H1, HP1, HB1⟩ := hrel
    have hAt := atN_in n pl F i
    by_cases hlt1 : i < N
    · obtain ⟨q, rfl⟩ : ∃ q, gk = q + 1 := ⟨gk - 1, by omega⟩
      have hd1 : decide ((i : Int) < (N : Int)) = true := decide_eq_true (by omega)
      have HStep := Aside0.mk (show atN n pl F (i + 1) = stepA n pl F i (atN n pl F i) from rfl)
      obtain ⟨a, ha⟩ : ∃ a, atN n pl F i = a := ⟨_, rfl⟩
      rw [ha] at HStep hAt ⊢
      clear ha
      have x1 := intAt H1.out i (by rw [valsL_length]; exact hlt1)
      rw [valsL_get] at x1
      obtain ⟨fi, hfi⟩ : ∃ fi, F i = fi := ⟨_, rfl⟩
      have HFI := Aside0.mk hfi
      rw [hfi] at x1
      clear hfi
      have hpc := HP1.out
      have HB1' := Aside0.mk (show Below w.heap.size w wr by rw [HZ.out]; exact HB1.out)
      by_cases c1 : endF n i pl = 0
      · have e1 : decide (endF n i pl = 0) = true := decide_eq_true c1
        by_cases c2 : 0 ≤ fi
        · have e2 : decide (0 ≤ fi) = true := decide_eq_true c2
          rcases hAt with rfl | ⟨h1, h2, h3⟩
          · have e3 : decide ((-1 : Int) < 0) = true := by decide
            have HV := Aside0.mk (show stepA n pl F i (-1) = (i : Int) by unfold stepA; rw [HFI.out]; rw [if_pos (by rw [e1, e2, e3]; rfl)])
            go_wp2_with (go_at_call 77; refine (ends_calls b n S i (by rw [HN.out]; exact hlt1) pl _ (HBd.out.below HB1'.out)).mono ?_; rintro e w2 ⟨rfl, kd, rfl⟩; have HB2 := Aside0.mk (pw_below_drewN HB1.out kd); have H2 := Aside0.mk (blk_drewN H1.out kd); have HP2 := Aside0.mk (show (wr.drewN kd).cell? ⟨B, 0, none⟩ = some (.int .u8 pl) from HP1.out))
            go_roundg q
            case measure => omega
            case rel => exact ⟨i + 1, by go_num, by omega, by rw [HStep.out, HV.out], H2, HP2, HB2⟩
          · obtain ⟨am, rfl⟩ : ∃ am : Nat, a = (am : Int) := ⟨a.toNat, by omega⟩
            rw [Int.toNat_natCast] at h3
            have e3 : decide ((am : Int) < 0) = false := decide_eq_false (by omega)
            have x2 := intAt H1.out am (by rw [valsL_length]; omega)
            rw [valsL_get] at x2
            obtain ⟨fa, hfa⟩ : ∃ fa, F am = fa := ⟨_, rfl⟩
            have HFA := Aside0.mk hfa
            rw [hfa] at x2 h3
            clear hfa
            by_cases c3 : fi < fa
            · have e4 : decide (fi < fa) = true := decide_eq_true c3
              have HV := Aside0.mk (show stepA n pl F i (am : Int) = (i : Int) by unfold stepA; rw [HFI.out]; rw [Int.toNat_natCast, HFA.out, if_pos (by rw [e1, e2, e3, e4]; rfl)])
              go_wp2_with (go_at_call 77; refine (ends_calls b n S i (by rw [HN.out]; exact hlt1) pl _ (HBd.out.below HB1'.out)).mono ?_; rintro e w2 ⟨rfl, kd, rfl⟩; have HB2 := Aside0.mk (pw_below_drewN HB1.out kd); have H2 := Aside0.mk (blk_drewN H1.out kd); have HP2 := Aside0.mk (show (wr.drewN kd).cell? ⟨B, 0, none⟩ = some (.int .u8 pl) from HP1.out))
              go_roundg q
              case measure => omega
              case rel => exact ⟨i + 1, by go_num, by omega, by rw [HStep.out, HV.out], H2, HP2, HB2⟩
            · have e4 : decide (fi < fa) = false := decide_eq_false c3
              have HV := Aside0.mk (show stepA n pl F i (am : Int) = (am : Int) by unfold stepA; rw [HFI.out]; rw [Int.toNat_natCast, HFA.out, if_neg (by rw [e1, e2, e3, e4]; simp)])
              go_wp2_with (go_at_call 77; refine (ends_calls b n S i (by rw [HN.out]; exact hlt1) pl _ (HBd.out.below HB1'.out)).mono ?_; rintro e w2 ⟨rfl, kd, rfl⟩; have HB2 := Aside0.mk (pw_below_drewN HB1.out kd); have H2 := Aside0.mk (blk_drewN H1.out kd); have HP2 := Aside0.mk (show (wr.drewN kd).cell? ⟨B, 0, none⟩ = some (.int .u8 pl) from HP1.out))
              go_roundg q
              case measure => omega
              case rel => exact ⟨i + 1, by go_num, by omega, by rw [HStep.out, HV.out], H2, HP2, HB2⟩
        · have e2 : decide (0 ≤ fi) = false := decide_eq_false c2
          have HV := Aside0.mk (show stepA n pl F i a = a by unfold stepA; rw [HFI.out]; rw [if_neg (by rw [e1, e2]; simp)])
          go_wp2_with (go_at_call 77; refine (ends_calls b n S i (by rw [HN.out]; exact hlt1) pl _ (HBd.out.below HB1'.out)).mono ?_; rintro e w2 ⟨rfl, kd, rfl⟩; have HB2 := Aside0.mk (pw_below_drewN HB1.out kd); have H2 := Aside0.mk (blk_drewN H1.out kd); have HP2 := Aside0.mk (show (wr.drewN kd).cell? ⟨B, 0, none⟩ = some (.int .u8 pl) from HP1.out))
          go_roundg q
          case measure => omega
          case rel => exact ⟨i + 1, by go_num, by omega, by rw [HStep.out, HV.out], H2, HP2, HB2⟩
      · have e1 : decide (endF n i pl = 0) = false := decide_eq_false c1
        have HV := Aside0.mk (show stepA n pl F i a = a by unfold stepA; rw [HFI.out]; rw [if_neg (by rw [e1]; simp)])
        go_wp2_with (go_at_call 77; refine (ends_calls b n S i (by rw [HN.out]; exact hlt1) pl _ (HBd.out.below HB1'.out)).mono ?_; rintro e w2 ⟨rfl, kd, rfl⟩; have HB2 := Aside0.mk (pw_below_drewN HB1.out kd); have H2 := Aside0.mk (blk_drewN H1.out kd); have HP2 := Aside0.mk (show (wr.drewN kd).cell? ⟨B, 0, none⟩ = some (.int .u8 pl) from HP1.out))
        go_roundg q
        case measure => omega
        case rel => exact ⟨i + 1, by go_num, by omega, by rw [HStep.out, HV.out], H2, HP2, HB2⟩
    · obtain rfl : gk = 0 := by omega
      obtain rfl : i = N := by omega
      have hd1 : decide ((i : Int) < (i : Int)) = false := decide_eq_false (by omega)
      have HAtv := Aside0.mk HBr.out
      obtain ⟨a, ha⟩ : ∃ a, atN n pl F i = a := ⟨_, rfl⟩
      rw [ha] at HAtv hAt ⊢
      clear ha HBr
      rcases hAt with rfl | ⟨h1, h2, h3⟩
      · have HRe := Aside0.mk (show R = [] by rw [HAtv.out, if_pos (by decide)])
        go_wp2
        rw [Exit.noGoto_ret]
        go_ret
        exact ⟨_, rfl, by rw [HRe.out]; exact own_nil _ _ _ _, fun _ => rfl, by rw [HZ.out]; exact HB1.out⟩
      · obtain ⟨am, rfl⟩ : ∃ am : Nat, a = (am : Int) := ⟨a.toNat, by omega⟩
        rw [Int.toNat_natCast] at h3
        have e3 : decide ((am : Int) < 0) = false := decide_eq_false (by omega)
        have HRe := Aside0.mk (show R = (am : Int) :: pathF n F i am by rw [HAtv.out, if_neg (by omega), Int.toNat_natCast])
        obtain ⟨k1, k2, k3⟩ := HEnd.out am (by omega) h3
        have HO := Aside0.mk (show (wr.alloc (Obj.cells #[Value.int .i64 am] 3)).ownsRow B 3 1 (.slice (some ⟨wr.heap.size, 0, none⟩) 1 1) ([(am : Int)]).length (nums .i64 [(am : Int)]) from
          own_lit wr B 3 .i64 [(am : Int)] (by have := HB1.out.size; rw [← HZ.out]; exact this) (by simp))
        have HBa := Aside0.mk (HB1.out.alloc (by have := HB1.out.size; rw [← HZ.out]; exact this) (Obj.cells #[Value.int .i64 am] 3))
        have H1a := Aside0.mk (blk_alloc H1.out (Obj.cells #[Value.int .i64 am] 3))
        go_wp2
        go_step3
        go_wp2
        have HSum := Aside0.mk (show [(am : Int)] ++ pathF n F i am = R from HRe.out.symm)
        have HOg := Aside0.mk (show (Value.slice (some ⟨wr.heap.size, 0, none⟩) 1 1).ownBlock ≠ some g by have := blk_lt H1.out; simp [Value.ownBlock]; omega)
        have HRn := Aside0.mk (show R ≠ [] by rw [HRe.out]; simp)
        clear HRe HAtv H1 HP1 HB1
        go_loopg [6, 11] i (fun q v6 v11 wr => ∃ (a : Nat) (o : List Int), v6 = .int .i64 a ∧ a < i ∧ 0 ≤ F a ∧ F a ≤ q + 1 ∧ (o.length : Int) + F a ≤ i + 1 ∧ Aside0 (o ++ pathF n F q a = R) ∧ Aside0 (wr.ownsRow B 3 1 v11 o.length (nums .i64 o) ∧ v11.ownBlock ≠ some g) ∧ Aside0 (wr.heap[g]? = some (intsO (valsL F i))) ∧ Aside0 (Below B w wr))
        case atStart => exact ⟨am, [(am : Int)], rfl, by omega, h3, by omega, by simp; omega, HSum, ⟨HO.out, HOg.out⟩, H1a, HBa⟩
        case round =>
          clear HSum HO HOg H1a HBa
          obtain ⟨a, o, rfl, hai, ha0, haq, hol, HSum, HO, H1, HB1⟩ := hrel
          have x1 := intAt H1.out a (by rw [valsL_length]; exact hai)
          rw [valsL_get] at x1
          obtain ⟨fa, hfa⟩ : ∃ fa, F a = fa := ⟨_, rfl⟩
          have HFA := Aside0.mk hfa
          rw [hfa] at x1 ha0 haq hol
          by_cases hgt : 1 < fa
          · obtain ⟨q, rfl⟩ : ∃ q, gk = q + 1 := ⟨gk - 1, by omega⟩
            have hdg : decide (1 < fa) = true := decide_eq_true hgt
            have HEx := Aside0.mk ((HEnd.out a hai (by rw [hfa]; exact ha0)).2.2 (by rw [hfa]; exact hgt))
            have haN := (HEnd.out a hai (by rw [hfa]; exact ha0)).2.1
            rw [hfa] at HEx haN
            clear hfa
            have HB1' := Aside0.mk (show Below w.heap.size w wr by rw [HZ.out]; exact HB1.out)
            go_wp2_with (go_at_call 78; refine (neighbours_calls b n S a (by rw [HN.out]; exact hai) _ (HBd.out.below HB1'.out) (HSt.out.below HB1'.out)).mono ?_; rintro e w3 ⟨v, rfl, ho, hb3⟩; obtain ⟨A3, c3, rfl, _, hC3⟩ := C_of_own ho rfl; have HB4 := Aside0.mk (HB1.out.trans (hb3.mono (by rw [← HZ.out]; exact HB1'.out.size))); have HH4 := Aside0.mk (blk_below H1.out hb3); have HO4 := Aside0.mk (And.intro (pw_own_below HO.out.1 hb3) HO.out.2); have HC3 := Aside0.mk hC3; clear ho hb3 hC3)
            have HNL := Aside0.mk (nbsI_len n a)
            have HNM := Aside0.mk (fun (x : Int) (hx : x ∈ nbsI n a) => nbsI_mem hx)
            clear x1 HB1 H1 HO HB1'
            go_loopg [6, 11, 64] (nbsI n a).length (fun q3 v6 v11 v64 wr3 => ∃ (j d : Nat), wr3 = w3.drewN d ∧ v6 = .int .i64 a ∧ Aside0 (w3.ownsRow B 3 1 v11 o.length (nums .i64 o) ∧ v11.ownBlock ≠ some g) ∧ v64 = .int .i64 j ∧ j + q3 = (nbsI n a).length ∧ Aside0 (∀ m (hm : m < j) (hm2 : m < (nbN n a).length), decide (F (nbN n a)[m] = fa - 1) = false))
            case atStart => exact ⟨0, 0, rfl, rfl, HO4, rfl, by omega, ⟨fun m hm => by omega⟩⟩
            case round =>
              clear HO4
              obtain ⟨j, d, rfl, rfl, HO4, rfl, hjq, HNo⟩ := hrel
              by_cases hj : j < (nbsI n a).length
              · obtain ⟨q3, rfl⟩ : ∃ q3, gk = q3 + 1 := ⟨gk - 1, by omega⟩
                have hd3 : decide ((j : Int) < ((nbsI n a).length : Int)) = true := decide_eq_true (by omega)
                obtain ⟨a3, e3, x3⟩ := Kd.at_int HC3.out (j : Int) (by omega) (by omega)
                subst e3
                have hrd : rd (nbsI n a) (j : Int) = (nbsI n a)[j] := by unfold rd; rw [Int.toNat_natCast, List.getD_eq_getElem?_getD, List.getElem?_eq_getElem hj]; rfl
                have hmem := HNM.out _ (List.getElem_mem hj)
                have hj6 : j ≤ 6 := by have := HNL.out; omega
                obtain ⟨x, hx⟩ : ∃ x : Nat, (nbsI n a)[j] = (x : Int) := ⟨(nbsI n a)[j].toNat, by omega⟩
                have hjn : j < (nbN n a).length := by unfold nbN; rw [List.length_map]; exact hj
                have HX := Aside0.mk (nbN_get hjn hj hx)
                rw [Int.toNat_natCast, hrd, hx] at x3
                have hxN : x < i := by have := hmem.2; rw [hx, HN.out] at this; omega
                have y1 := intAt HH4.out x (by rw [valsL_length]; exact hxN)
                have y2 := intAt HH4.out a (by rw [valsL_length]; exact hai)
                rw [valsL_get] at y1 y2
                rw [HFA.out] at y2
                obtain ⟨fx, hfx⟩ : ∃ fx, F x = fx := ⟨_, rfl⟩
                rw [hfx] at y1
                have HFX := Aside0.mk hfx
                clear hrd hmem hx hfx
                have hw1 : IntKind.i64.wrap (fa - 1) = fa - 1 := IntWalk.i64_in _ (by omega)
                have hxI : (x : Int) < (i : Int) := by omega
                have haI : (a : Int) < (i : Int) := by omega
                have hx0 : (0 : Int) ≤ (x : Int) := by omega
                have hax : (0 : Int) ≤ (a : Int) := by omega
                by_cases hq : fx = fa - 1
                · have eq1 : (fx == fa - 1) = true := by simp [hq]
                  have HFind := Aside0.mk (show (nbN n a).find? (fun j => decide (F j = F a - 1)) = some x by
                    have := find_at (p := fun j => decide (F j = F a - 1)) hjn (fun m hm => by rw [HFA.out]; exact HNo.out m hm (by omega)) (by rw [HX.out, HFX.out, HFA.out]; exact decide_eq_true hq)
                    rwa [HX.out] at this)
                  have HSum2 := Aside0.mk (show (o ++ [(x : Int)]) ++ pathF n F q x = R by
                    rw [← HSum.out, pathF_go n F q a x (by rw [HFA.out]; exact hgt) HFind.out, List.append_assoc]
                    rfl)
                  have HFX2 := Aside0.mk (HFX.out.trans hq)
                  clear hq
                  go_wp2
                  go_quiet (fail)
                  have HO5 := Aside0.mk (pw_own_below HO4.out.1 (pw_below_drewN (Below.refl _ _) (d + nq)))
                  have hBs : B ≤ w3.heap.size := by have := HB4.out.size; rw [← HZ.out]; exact this
                  go_wp2_with (at_builtin; refine wpList_append_own_at _ rfl _ _ 22 rfl B 3 i0 (.int .i64 0) 1 8 Tryz.underlying22 hi0 hz0 hz1 hz2 rfl (by decide) _ _ _ rfl (HO5.out.alloc _) ⟨w3.heap.size, 0, none⟩ 1 1 [.int .i64 (x : Int)] rfl rfl ?c1 ?c2 ?c3 ?c4 ?c5 ?_)
                  case c1 => exact cell_one_new _ _ _
                  case c2 => intro u hu; simp at hu; subst hu; rfl
                  case c3 => unfold maxLen; omega
                  case c4 => omega
                  case c5 => simp; omega
                  intro v' w4 hown4 hgrow4 _ hat4
                  have HO6 : Aside0 (w4.ownsRow B 3 1 v' (o ++ [(x : Int)]).length (nums .i64 (o ++ [(x : Int)])) ∧ v'.ownBlock ≠ some g) := ⟨by rw [nums_append, List.length_append]; exact hown4, by
                    have hgl := blk_lt HH4.out
                    rcases hat4 with e | e
                    · rw [e]; exact HO4.out.2
                    · rw [e]; simp; omega⟩
                  have HB6 : Aside0 (Below B w w4) := ⟨pw_below_grown ((pw_below_drewN HB4.out (d + nq)).alloc (by show B ≤ w3.heap.size; exact hBs) _) _ (by simp; omega) hgrow4 (fun g hg => own_base HO5.out g hg)⟩
                  have HH6 : Aside0 (w4.heap[g]? = some (intsO (valsL F i))) := ⟨blk_grown (blk_alloc (blk_drewN HH4.out (d + nq)) _) hgrow4 (fun e => HO4.out.2 e.symm)⟩
                  have HF6 := Aside0.mk (show 0 ≤ F x ∧ F x ≤ (q : Int) + 1 ∧ ((o ++ [(x : Int)]).length : Int) + F x ≤ i + 1 by
                    rw [HFX2.out, List.length_append]
                    simp only [List.length_cons, List.length_nil]
                    omega)
                  clear hown4 hgrow4 hat4
                  go_wp2
                  go_roundg q
                  case measure => omega
                  case rel => exact ⟨x, o ++ [(x : Int)], rfl, by omega, HF6.out.1, HF6.out.2.1, HF6.out.2.2, HSum2, HO6, HH6, HB6⟩
                · have eq1 : (fx == fa - 1) = false := by simp [hq]
                  have HNo2 := Aside0.mk (show ∀ m (hm : m < j + 1) (hm2 : m < (nbN n a).length), decide (F (nbN n a)[m] = fa - 1) = false by
                    intro m hm hm2
                    by_cases e : m = j
                    · subst e
                      rw [HX.out, HFX.out]
                      exact decide_eq_false hq
                    · exact HNo.out m (by omega) hm2)
                  clear hq
                  go_wp2
                  go_quiet (fail)
                  go_wp2
                  go_roundg q3
                  case measure => omega
                  case rel => exact ⟨j + 1, d + nq, by simp, rfl, HO4, by go_num, by omega, HNo2⟩
              · exfalso
                obtain ⟨y, hy, ey⟩ := HEx.out
                obtain ⟨m, hm, rfl⟩ := List.mem_iff_getElem.1 hy
                have hmn : m < (nbsI n a).length := by unfold nbN at hm; rwa [List.length_map] at hm
                have := HNo.out m (by omega) hm
                rw [ey] at this
                simp at this
          · have hdg : decide (1 < fa) = false := decide_eq_false hgt
            have HSum2 := Aside0.mk (show o = R by
              rw [← HSum.out, pathF_stop n F gk a (by rw [hfa]; exact hgt), List.append_nil])
            clear hfa HSum
            go_wp2
            all_goals (try rw [Exit.noGoto_ret])
            go_ret
            exact ⟨_, rfl, by rw [← HSum2.out, HZ.out]; exact HO.out.1, fun h => absurd h HRn.out, by rw [HZ.out]; exact HB1.out⟩
end Go.Proofs.YtldohjlcckbfaaaGreatDoor.Hand
namespace Go.Proofs.YtldohjlcckbfaaaGreatDoor.Hand
open Go.RowKit Go.Proofs.YtldohjlcckbfaaaGreatDoorW.PrintWords Go.Proofs.YtldohjlcckbfaaaGreatDoorW.PrintLast Go.Proofs.YtldohjlcckbfaaaGreatDoorW.PrintMore
set_option linter.unusedVariables false
set_option linter.unusedSimpArgs false
open Go.Proofs.YtldohjlcckbfaaaGreatDoor.Pre TopFar
def winnerF (n : Nat) (S : List Int) : Int := if bridgeF n S 120 = [] then (if bridgeF n S 111 = [] then 0 else 111) else 120
theorem own_some {w : World} {base : Nat} {v : Value} {L : List Int} (h : w.ownsRow base 3 1 v L.length (nums .i64 L)) (hl : L ≠ []) : ∃ g c, v = .slice (some ⟨g, 0, none⟩) L.length c := by
  rcases h.2 with ⟨_, h0⟩ | ⟨g, cap, cur, e, _⟩
  · exact absurd (List.eq_nil_of_length_eq_zero h0) hl
  · exact ⟨g, cap, e⟩
set_option maxHeartbeats 8000000 in
set_option maxRecDepth 100000 in
theorem winner_calls (b n : Nat) (S : List Int) (w : World) (h : BoardAt w b n S) (hs : StepsAt w) :
    Calls Tryz.prog 41 #[.pointer (some ⟨b, 0, none⟩)] w fun e w' => e = .returned (.int .u8 (winnerF n S)) ∧ Below w.heap.size w w' := by
  have HBd := Aside0.mk h
  have HSt := Aside0.mk hs
  have hneq : ∀ (w : World) (a : Option Addr) (n c n' c' : Nat), (binOp .neq 22 (.slice a n c) (.slice none n' c')).run Tryz.prog w = .ok (.bool !a.isNone) w := fun w a n c n' c' => run_neq_slice_nil_any w _ _ a n c n' c' Tryz.underlying22
  clear h hs
  have kc := fun (w : World) (C : Array Value) (n c : Nat) => Lib.run_convert_bytes_const (P := Tryz.prog) w 98 5 C n c Tryz.underlying98 Tryz.underlying5
  have B0 := Below.alloc (Below.refl w.heap.size w) (Nat.le_refl _) (Obj.cells #[Value.int .u8 120, Value.int .u8 111] 5 (2, 3))
  have H0 := Aside0.mk (bridge_calls b n S 120 _ (HBd.out.below B0) (HSt.out.below B0))
  have HB0 := Aside0.mk B0
  have c0 := Aside0.mk (show (w.alloc (Obj.cells #[Value.int .u8 120, Value.int .u8 111] 5 (2, 3))).cell? ⟨w.heap.size, 0, none⟩ = some (.int .u8 120) by simp only [World.cell?, heap_new]; rfl)
  have c1 := Aside0.mk (show (w.alloc (Obj.cells #[Value.int .u8 120, Value.int .u8 111] 5 (2, 3))).cell? ⟨w.heap.size, 1, none⟩ = some (.int .u8 111) by simp only [World.cell?, heap_new]; rfl)
  rw [size_alloc] at H0
  have hW := Aside0.mk (show winnerF n S = if bridgeF n S 120 = [] then (if bridgeF n S 111 = [] then 0 else 111) else 120 from rfl)
  obtain ⟨R, hR⟩ : ∃ R, winnerF n S = R := ⟨_, rfl⟩
  rw [hR] at hW ⊢
  clear hR B0
  by_cases e1 : bridgeF n S 120 = []
  · have E1 := Aside0.mk e1
    rw [if_pos e1] at hW
    clear e1
    go_enter Tryz.func41, Tryz.ntmps41
    go_wp2
    go_loopg [8] 3 (fun q v8 wr => ∃ k : Nat, v8 = .int .i64 k ∧ k + q = 3 ∧ k ≤ 2 ∧ Aside0 (k = 2 → bridgeF n S 111 = []) ∧ Aside0 (Below w.heap.size w wr) ∧ Aside0 (wr.cell? ⟨w.heap.size, 0, none⟩ = some (.int .u8 120)) ∧ Aside0 (wr.cell? ⟨w.heap.size, 1, none⟩ = some (.int .u8 111)))
    case atStart => exact ⟨0, rfl, rfl, by omega, ⟨fun h => by omega⟩, HB0, c0, c1⟩
    case round =>
      clear H0 HB0 c0 c1
      obtain ⟨k, rfl, hkq, hk2, HK, HB0, c0, c1⟩ := hrel
      have x0 := c0.out
      have x1 := c1.out
      have hkc : k = 0 ∨ k = 1 ∨ k = 2 := by omega
      rcases hkc with rfl | rfl | rfl
      · obtain rfl : gk = 3 := by omega
        go_wp2_with (go_at_call 42; refine (bridge_calls b n S 120 _ (HBd.out.below HB0.out) (HSt.out.below HB0.out)).mono ?_; rintro e w1 ⟨v, rfl, ho, hn, hb⟩; obtain rfl := hn E1.out; have HB1 := Aside0.mk (HB0.out.trans (hb.mono HB0.out.size)); have C0 := Aside0.mk (pw_cell_below hb c0.out); have C1 := Aside0.mk (pw_cell_below hb c1.out); clear ho hb hn)
        go_roundg 2
        case measure => omega
        case rel => exact ⟨1, by first | rfl | go_num, rfl, by omega, ⟨fun h => by omega⟩, HB1, C0, C1⟩
      · obtain rfl : gk = 2 := by omega
        by_cases e2 : bridgeF n S 111 = []
        · have E2 := Aside0.mk e2
          clear e2
          go_wp2_with (go_at_call 42; refine (bridge_calls b n S 111 _ (HBd.out.below HB0.out) (HSt.out.below HB0.out)).mono ?_; rintro e w1 ⟨v, rfl, ho, hn, hb⟩; obtain rfl := hn E2.out; have HB1 := Aside0.mk (HB0.out.trans (hb.mono HB0.out.size)); have C0 := Aside0.mk (pw_cell_below hb c0.out); have C1 := Aside0.mk (pw_cell_below hb c1.out); clear ho hb hn)
          go_roundg 1
          case measure => omega
          case rel => exact ⟨2, by first | rfl | go_num, rfl, by omega, ⟨fun _ => E2.out⟩, HB1, C0, C1⟩
        · have hR : R = 111 := by rw [hW.out, if_neg e2]
          subst hR
          have E2 := Aside0.mk e2
          clear e2 hW
          go_wp2_with (go_at_call 42; refine (bridge_calls b n S 111 _ (HBd.out.below HB0.out) (HSt.out.below HB0.out)).mono ?_; rintro e w1 ⟨v, rfl, ho, _, hb⟩; obtain ⟨g, c, rfl⟩ := own_some ho E2.out; have HB1 := Aside0.mk (HB0.out.trans (hb.mono HB0.out.size)); clear ho hb)
          go_ret
          exact ⟨rfl, HB1.out⟩
      · have hR : R = 0 := by rw [hW.out, if_pos (HK.out rfl)]
        subst hR
        clear hW
        go_wp2
        go_ret
        exact ⟨rfl, HB0.out⟩
  · have hR : R = 120 := by rw [hW.out, if_neg e1]
    subst hR
    have E1 := Aside0.mk e1
    clear e1 hW
    have x0 := c0.out
    go_enter Tryz.func41, Tryz.ntmps41
    go_wp2
    go_loopg [8] 2 (fun q v8 wr => wr = w.alloc (Obj.cells #[Value.int .u8 120, Value.int .u8 111] 5 (2, 3)) ∧ v8 = .int .i64 0)
    case atStart => exact ⟨rfl, rfl⟩
    case round =>
      obtain ⟨rfl, rfl⟩ := hrel
      go_wp2_with (go_at_call 42; refine H0.out.mono ?_; rintro e w1 ⟨v, rfl, ho, _, hb⟩; obtain ⟨g, c, rfl⟩ := own_some ho E1.out; have HB1 := Aside0.mk (HB0.out.trans (hb.mono (Nat.le_succ _))); clear ho hb)
      go_ret
      exact ⟨rfl, HB1.out⟩
set_option maxHeartbeats 8000000 in
set_option maxRecDepth 100000 in
theorem winner_bad (n : Nat) (h1 : 1 ≤ n) (h2 : n ≤ 11) (s : ByteArray) (hs : s.size = n * n) (hx : xo s = false) (w : World) :
    Calls Tryz.prog 19 #[.int .i64 n, .string s] w fun e w' => e = .returned (.tuple #[.string ⟨#[]⟩, .slice none 0 0, .int .i64 5]) ∧ Below w.heap.size w w' := by
  have HB := Aside0.mk (boarded_bad n h1 h2 s hs hx w)
  clear hs hx
  go_enter Tryz.func19, Tryz.ntmps19
  go_wp2_with (go_at_call 40; refine HB.out.mono ?_; rintro e w1 ⟨rfl, hb⟩; have HB1 := Aside0.mk hb; clear hb)
  go_ret3
  exact ⟨rfl, HB1.out⟩
def wstr (n : Nat) (S : List Int) : ByteArray := Utf8.encode (wrap32 (winnerF n S))
theorem wstr_size (n : Nat) (S : List Int) : (wstr n S).size = 1 := by
  unfold wstr winnerF
  split
  · split
    · decide +kernel
    · decide +kernel
  · decide +kernel
set_option maxHeartbeats 8000000 in
set_option maxRecDepth 100000 in
theorem winner_good (n : Nat) (h1 : 1 ≤ n) (h2 : n ≤ 11) (s : ByteArray) (hs : s.size = n * n) (hx : xo s = true) (w : World) (hst : StepsAt w) :
    Calls Tryz.prog 19 #[.int .i64 n, .string s] w fun e w' => ∃ v, e = .returned (.tuple #[.string (wstr n (bytesOf s)), v, .int .i64 0]) ∧
      w'.ownsRow w.heap.size 3 1 v (bridgeF n (bytesOf s) (winnerF n (bytesOf s))).length (nums .i64 (bridgeF n (bytesOf s) (winnerF n (bytesOf s)))) ∧ Below w.heap.size w w' := by
  have HB := Aside0.mk (boarded_good n h1 h2 s hs hx w)
  have HSt := Aside0.mk hst
  have HW := Aside0.mk (show wstr n (bytesOf s) = Utf8.encode (wrap32 (winnerF n (bytesOf s))) from rfl)
  obtain ⟨S, hS⟩ : ∃ S, bytesOf s = S := ⟨_, rfl⟩
  rw [hS] at HB HW ⊢
  obtain ⟨p, hp⟩ : ∃ p, winnerF n S = p := ⟨_, rfl⟩
  have HP := Aside0.mk hp
  rw [hp] at HW ⊢
  clear hs hx hst hS hp
  go_enter Tryz.func19, Tryz.ntmps19
  go_wp2_with (first | (go_at_call 40; refine HB.out.mono ?_; rintro e w1 ⟨b, rfl, hbd, hb⟩; have HB1 := Aside0.mk hb; have HBd := Aside0.mk hbd; clear hb hbd) | (go_at_call 41; refine (winner_calls b n S _ HBd.out (HSt.out.below HB1.out)).mono ?_; rintro e w2 ⟨rfl, hb⟩; rw [HP.out]; have HB2 := Aside0.mk (HB1.out.trans (hb.mono HB1.out.size)); have HBd2 := Aside0.mk (HBd.out.below hb); clear hb) | (go_at_call 42; refine (bridge_calls b n S p _ HBd2.out (HSt.out.below HB2.out)).mono ?_; rintro e w3 ⟨v, rfl, ho, _, hb⟩; have HB3 := Aside0.mk (HB2.out.trans (hb.mono HB2.out.size)); obtain ⟨A, c, rfl⟩ := own_slice ho; have HO := Aside0.mk (own_weaken ho HB2.out.size); clear ho hb))
  go_ret3
  exact ⟨_, by rw [HW.out]; rfl, HO.out, HB3.out⟩
end Go.Proofs.YtldohjlcckbfaaaGreatDoor.Hand
