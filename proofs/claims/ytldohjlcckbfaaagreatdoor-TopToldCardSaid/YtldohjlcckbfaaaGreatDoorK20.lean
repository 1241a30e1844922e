/- A part of the proof that pomadetop.TopTold returns true for every input: HandWd. No condition beyond those that each theorem states. -/
import Derived.Test.YtldohjlcckbfaaaGreatDoorK19
namespace Go.Proofs.YtldohjlcckbfaaaGreatDoor.Hand
open Go.RowKit Go.Proofs.YtldohjlcckbfaaaGreatDoorW.PrintWords Go.Proofs.YtldohjlcckbfaaaGreatDoorW.PrintLast Go.Proofs.YtldohjlcckbfaaaGreatDoorW.PrintMore
set_option linter.unusedVariables false
set_option linter.unusedSimpArgs false
open Go.Proofs.YtldohjlcckbfaaaGreatDoor.Pre TopFar
def ownF (S : List Int) (pl : Int) (i : Nat) : Bool := decide (rd S i = pl)
def lastF (n : Nat) (pl : Int) (i : Nat) : Bool := decide (endF n i pl = n - 1)
def nbN (n i : Nat) : List Nat := (nbsI n i).map Int.toNat
theorem nbN_lt {n i j : Nat} (h : j ∈ nbN n i) : j < n * n := by
  unfold nbN at h
  obtain ⟨x, hx, rfl⟩ := List.mem_map.1 h
  have := nbsI_mem hx
  omega
theorem nbN_get {n i j x : Nat} (h : j < (nbN n i).length) (h2 : j < (nbsI n i).length) (hx : (nbsI n i)[j] = (x : Int)) : (nbN n i)[j] = x := by
  unfold nbN at h ⊢
  rw [List.getElem_map, hx, Int.toNat_natCast]
abbrev rnd (n : Nat) (S : List Int) (pl : Int) (k : Nat) : Nat → Int := rounds (ownF S pl) (lastF n pl) (nbN n) (n * n) k
abbrev swp (n : Nat) (S : List Int) (pl : Int) (k i : Nat) : Nat → Int := sweep (ownF S pl) (lastF n pl) (nbN n) (rnd n S pl k) i
theorem board_cells {w w' : World} {b n : Nat} {A : Option Addr} {c : Nat} (h : w.heap[b]? = some (boardO n A c)) (hb : Below w.heap.size w w') : w'.cell? ⟨b, 0, none⟩ = some (.int .i64 n) ∧ w'.cell? ⟨b, 1, none⟩ = some (.slice A (n * n) c) := by
  have h1 := blk_below h hb
  unfold boardO at h1
  exact ⟨by rw [blk_cell h1]; rfl, by rw [blk_cell h1]; rfl⟩
set_option maxHeartbeats 8000000 in
set_option maxRecDepth 100000 in
theorem far_calls (b n : Nat) (S : List Int) (bp : Nat) (pl : Int) (w : World) (h : BoardAt w b n S) (hs : StepsAt w) (hp : w.cell? ⟨bp, 0, none⟩ = some (.int .u8 pl)) :
    Calls Tryz.prog 75 #[.pointer (some ⟨b, 0, none⟩), .int .u8 pl, .func (.func 76) #[] #[.pointer (some ⟨bp, 0, none⟩)]] w fun e w' => ∃ g, e = .returned (.slice (some ⟨g, 0, none⟩) (n * n) (n * n)) ∧
      w'.heap[g]? = some (intsO (valsL (rnd n S pl (n * n)) (n * n))) ∧ Below w.heap.size w w' := by
  have n1 := h.lo
  have n2 := h.hi
  have HBd := Aside0.mk h
  have HSt := Aside0.mk hs
  have HPl := Aside0.mk hp
  have hnn : n * n ≤ 11 * 11 := Nat.mul_le_mul n2 n2
  have hn1 : 1 ≤ n * n := Nat.mul_le_mul n1 n1
  obtain ⟨N, hN⟩ : ∃ N, n * n = N := ⟨_, rfl⟩
  have HN := Aside0.mk hN
  obtain ⟨A, c, hrow, hC⟩ := h.row
  have hl0 := h.len.trans hN
  rw [hN] at hnn hn1
  obtain ⟨ad, eA, _⟩ := Kd.at_int hC 0 (by omega) (by omega)
  subst eA
  have HRow := Aside0.mk hrow
  have HC := Aside0.mk hC
  obtain ⟨q1, q2⟩ := board_cells hrow (below_alloc (Below.refl _ w) (Obj.cells #[Value.int .i64 (-1)] 3))
  have hlt := blk_lt hrow
  rw [hN] at q2 ⊢
  have HL := Aside0.mk hl0
  clear h hs hp hN hC hrow hl0
  have HNC := cellAt (heap_new w (Obj.cells #[Value.int .i64 (-1)] 3))
  have HR := Aside0.mk (repeat_calls N hn1 (by omega) w.heap.size _ HNC)
  have HB0 := Aside0.mk (below_alloc (Below.refl _ w) (Obj.cells #[Value.int .i64 (-1)] 3))
  rw [size_alloc] at HR
  clear HNC
  go_enter Tryz.func75, Tryz.ntmps75
  go_wp2_with (go_at_call 129; refine HR.out.mono ?_; rintro e w1 ⟨rfl, h1, hb1⟩; have H1 := Aside0.mk h1; have HB1 := Aside0.mk (HB0.out.trans (hb1.mono (Nat.le_succ _))); clear h1 hb1)
  obtain ⟨g, hg⟩ : ∃ g, w.heap.size + 1 = g := ⟨_, rfl⟩
  have HG : w.heap.size ≤ g := by omega
  rw [hg] at H1 ⊢
  clear hg q1 q2 HR HB0
  go_loopg [25] N (fun q v25 wr => ∃ (k : Nat), v25 = .int .i64 k ∧ k + q = N ∧ Aside0 (wr.heap[g]? = some (intsO (valsL (rnd n S pl k) N))) ∧ Aside0 (Below w.heap.size w wr))
  case atStart => exact ⟨0, rfl, by omega, ⟨by rw [show rnd n S pl 0 = fun _ => -1 from rfl, valsL_start]; exact H1.out⟩, HB1⟩
  case round =>
    clear H1 HB1
    obtain ⟨k, rfl, hkq, HH, HB⟩ := hrel
    by_cases hlt1 : k < N
    · obtain ⟨q, rfl⟩ : ∃ q, gk = q + 1 := ⟨gk - 1, by omega⟩
      have hd1 : decide ((k : Int) < (N : Int)) = true := decide_eq_true (by omega)
      obtain ⟨q1, q2⟩ := board_cells HRow.out HB.out
      rw [HN.out] at q2
      have HNx := Aside0.mk ((by rintro M rfl; rfl : ∀ M, n * n = M → rnd n S pl (k + 1) = swp n S pl k M) N HN.out)
      go_wp2
      clear q1 q2
      go_loopg [32] N (fun q2 v32 wr2 => ∃ (i : Nat), v32 = .int .i64 i ∧ i + q2 = N ∧ Aside0 (wr2.heap[g]? = some (intsO (valsL (swp n S pl k i) N))) ∧ Aside0 (Below w.heap.size w wr2))
      case atStart => exact ⟨0, rfl, by omega, HH, HB⟩
      case round =>
        clear HH HB
        obtain ⟨i, rfl, hiq, HH2, HB2⟩ := hrel
        by_cases hlt2 : i < N
        · obtain ⟨q2, rfl⟩ : ∃ q2, gk = q2 + 1 := ⟨gk - 1, by omega⟩
          have hd2 : decide ((i : Int) < (N : Int)) = true := decide_eq_true (by omega)
          obtain ⟨ad', eA, x1⟩ := Kd.at_int (Kd.C_below HC.out HB2.out) (i : Int) (by omega) (by rw [HL.out]; omega)
          cases eA
          rw [Int.toNat_natCast] at x1
          have hpc := pw_cell_below HB2.out HPl.out
          obtain ⟨q1, q2'⟩ := board_cells HRow.out HB2.out
          have HSucc := Aside0.mk (show swp n S pl k (i + 1) = upd (ownF S pl) (lastF n pl) (nbN n) (swp n S pl k i) i from rfl)
          have HBnd := Aside0.mk (show Bd (200 * (k : Int) + i) (swp n S pl k i) from sweep_bd (by omega) (rounds_bd (by rw [HN.out]; omega) k) i)
          obtain ⟨cv, hcv⟩ : ∃ cv, rd S (i : Int) = cv := ⟨_, rfl⟩
          have HCV := Aside0.mk hcv
          rw [hcv] at x1
          clear hcv
          by_cases ho1 : cv = pl
          · have hcost : (if cv = pl then (1 : Int) else -1) = 1 := if_pos ho1
            have HO1 := Aside0.mk (HCV.out.trans ho1)
            clear ho1
            by_cases hl0 : endF n i pl = n - 1
            · have hl : decide (endF n i pl = n - 1) = true := decide_eq_true hl0
              have HI := Aside0.mk (show (if lastF n pl i = true then (1 : Int) else -1) = 1 by unfold lastF; rw [hl]; rfl)
              go_wp2_with (first | (go_at_call 76; refine (cost_calls bp cv pl _ hpc).mono ?_; rintro e w5 ⟨rfl, rfl⟩) | (go_at_call 77; refine (ends_calls b n S i (by rw [HN.out]; exact hlt2) pl _ (HBd.out.below HB2.out)).mono ?_; rintro e w2 ⟨rfl, kd, rfl⟩; have HB3 := Aside0.mk (pw_below_drewN HB2.out kd); have HH3 := Aside0.mk (blk_drewN HH2.out kd)) | (go_at_call 78; refine (neighbours_calls b n S i (by rw [HN.out]; exact hlt2) _ (HBd.out.below HB3.out) (HSt.out.below HB3.out)).mono ?_; rintro e w3 ⟨v, rfl, ho, hb3⟩; obtain ⟨A3, c3, rfl, _, hC3⟩ := C_of_own ho rfl; have HB4 := Aside0.mk (HB3.out.trans (hb3.mono HB3.out.size)); have HH4 := Aside0.mk (blk_below HH3.out hb3); have HC3 := Aside0.mk hC3; clear ho hb3 hC3))
              obtain ⟨f, hf⟩ : ∃ f, swp n S pl k i = f := ⟨_, rfl⟩
              rw [hf] at HH4 HSucc HBnd
              have HNL := Aside0.mk (nbsI_len n i)
              have HNM := Aside0.mk (fun (x : Int) (hx : x ∈ nbsI n i) => nbsI_mem hx)
              clear hf hpc x1 q1 q2'
              go_loopg [11, 55] (nbsI n i).length (fun q v11 v55 wr3 => ∃ (j : Nat), wr3 = w3 ∧ v55 = .int .i64 j ∧ j + q = (nbsI n i).length ∧ v11 = .int .i64 (((nbN n i).take j).foldl (low f) 1))
              case atStart => exact ⟨0, rfl, rfl, by omega, rfl⟩
              case round =>
                obtain ⟨j, rfl, rfl, hjq, rfl⟩ := hrel
                by_cases hj : j < (nbsI n i).length
                · obtain ⟨q3, rfl⟩ : ∃ q3, gk = q3 + 1 := ⟨gk - 1, by omega⟩
                  have hd3 : decide ((j : Int) < ((nbsI n i).length : Int)) = true := decide_eq_true (by omega)
                  obtain ⟨a3, e3, x3⟩ := Kd.at_int HC3.out (j : Int) (by omega) (by omega)
                  subst e3
                  have hrd : rd (nbsI n i) (j : Int) = (nbsI n i)[j] := by unfold rd; rw [Int.toNat_natCast, List.getD_eq_getElem?_getD, List.getElem?_eq_getElem hj]; rfl
                  have hmem := HNM.out _ (List.getElem_mem hj)
                  obtain ⟨x, hx⟩ : ∃ x : Nat, (nbsI n i)[j] = (x : Int) := ⟨(nbsI n i)[j].toNat, by omega⟩
                  have hst : ((nbN n i).take (j + 1)).foldl (low f) 1 = low f (((nbN n i).take j).foldl (low f) 1) x := by
                    have hjn : j < (nbN n i).length := by unfold nbN; rw [List.length_map]; exact hj
                    rw [List.take_succ_eq_append_getElem hjn, List.foldl_append]
                    rw [nbN_get hjn hj hx]
                    rfl
                  have HST := Aside0.mk hst
                  have hj6 : j ≤ 6 := by have := HNL.out; omega
                  rw [Int.toNat_natCast, hrd, hx] at x3
                  have hxN : x < N := by have := hmem.2; rw [hx, HN.out] at this; omega
                  have y1 := intAt HH4.out x (by rw [valsL_length]; exact hxN)
                  rw [valsL_get] at y1
                  have hbf := HBnd.out x
                  have hbb := fold_bd HBnd.out ((nbN n i).take j) 1 (by omega) (by omega)
                  obtain ⟨fx, hfx⟩ : ∃ fx, f x = fx := ⟨_, rfl⟩
                  obtain ⟨bst, hbst⟩ : ∃ bst, ((nbN n i).take j).foldl (low f) 1 = bst := ⟨_, rfl⟩
                  rw [hbst] at HST hbb ⊢
                  rw [hfx] at y1 hbf
                  have HFX := Aside0.mk hfx
                  obtain ⟨hbf1, hbf2⟩ := hbf
                  obtain ⟨hbb1, hbb2⟩ := hbb
                  clear hst hrd hmem hx hfx hbst
                  by_cases g1 : 0 ≤ fx
                  · have e1 : decide (0 ≤ fx) = true := decide_eq_true g1
                    by_cases g2 : bst < 0
                    · have e2 : decide (bst < 0) = true := decide_eq_true g2
                      have HV := Aside0.mk (show low f bst x = fx + 1 by unfold low; rw [HFX.out, if_pos ⟨g1, .inl g2⟩])
                      go_wp2
                      go_roundg q3
                      case measure => omega
                      case rel => exact ⟨j + 1, rfl, by go_num, by omega, by rw [HST.out, HV.out]⟩
                    · have e2 : decide (bst < 0) = false := decide_eq_false g2
                      by_cases g3 : fx + 1 < bst
                      · have e3 : decide (fx + 1 < bst) = true := decide_eq_true g3
                        have HV := Aside0.mk (show low f bst x = fx + 1 by unfold low; rw [HFX.out, if_pos ⟨g1, .inr g3⟩])
                        go_wp2
                        go_roundg q3
                        case measure => omega
                        case rel => exact ⟨j + 1, rfl, by go_num, by omega, by rw [HST.out, HV.out]⟩
                      · have e3 : decide (fx + 1 < bst) = false := decide_eq_false g3
                        have HV := Aside0.mk (show low f bst x = bst by unfold low; rw [HFX.out, if_neg (by omega)])
                        go_wp2
                        go_roundg q3
                        case measure => omega
                        case rel => exact ⟨j + 1, rfl, by go_num, by omega, by rw [HST.out, HV.out]⟩
                  · have e1 : decide (0 ≤ fx) = false := decide_eq_false g1
                    have HV := Aside0.mk (show low f bst x = bst by unfold low; rw [HFX.out, if_neg (by omega)])
                    go_wp2
                    go_roundg q3
                    case measure => omega
                    case rel => exact ⟨j + 1, rfl, by go_num, by omega, by rw [HST.out, HV.out]⟩
                · obtain rfl : gk = 0 := by omega
                  obtain rfl : j = (nbsI n i).length := by omega
                  have hd3 : decide (((nbsI n i).length : Int) < ((nbsI n i).length : Int)) = false := decide_eq_false (by omega)
                  have HFin := Aside0.mk (show best (ownF S pl) (lastF n pl) (nbN n) f i = ((nbN n i).take (nbsI n i).length).foldl (low f) 1 by
                    unfold best
                    rw [if_pos (by unfold ownF; exact decide_eq_true HO1.out), HI.out, List.take_of_length_le (by unfold nbN; rw [List.length_map]; exact Nat.le_refl _)])
                  obtain ⟨bst, hbst⟩ : ∃ bst, ((nbN n i).take (nbsI n i).length).foldl (low f) 1 = bst := ⟨_, rfl⟩
                  rw [hbst] at HFin ⊢
                  clear hbst
                  have y1 := intAt HH4.out i (by rw [valsL_length]; exact hlt2)
                  have y2 := intFree HH4.out i
                  have HH5 := Aside0.mk (intSet HH4.out i bst)
                  rw [← HFin.out, valsL_upd hlt2, ← HSucc.out, HFin.out] at HH5
                  have HB5 := Aside0.mk (HB4.out.setCell (p := ⟨g, i, none⟩) HG (.int .i64 bst))
                  go_wp2
                  go_roundg q2
                  case measure => omega
                  case rel => exact ⟨i + 1, by go_num, by omega, HH5, HB5⟩
            · have hl : decide (endF n i pl = n - 1) = false := decide_eq_false hl0
              have HI := Aside0.mk (show (if lastF n pl i = true then (1 : Int) else -1) = (-1) by unfold lastF; rw [hl]; rfl)
              go_wp2_with (first | (go_at_call 76; refine (cost_calls bp cv pl _ hpc).mono ?_; rintro e w5 ⟨rfl, rfl⟩) | (go_at_call 77; refine (ends_calls b n S i (by rw [HN.out]; exact hlt2) pl _ (HBd.out.below HB2.out)).mono ?_; rintro e w2 ⟨rfl, kd, rfl⟩; have HB3 := Aside0.mk (pw_below_drewN HB2.out kd); have HH3 := Aside0.mk (blk_drewN HH2.out kd)) | (go_at_call 78; refine (neighbours_calls b n S i (by rw [HN.out]; exact hlt2) _ (HBd.out.below HB3.out) (HSt.out.below HB3.out)).mono ?_; rintro e w3 ⟨v, rfl, ho, hb3⟩; obtain ⟨A3, c3, rfl, _, hC3⟩ := C_of_own ho rfl; have HB4 := Aside0.mk (HB3.out.trans (hb3.mono HB3.out.size)); have HH4 := Aside0.mk (blk_below HH3.out hb3); have HC3 := Aside0.mk hC3; clear ho hb3 hC3))
              obtain ⟨f, hf⟩ : ∃ f, swp n S pl k i = f := ⟨_, rfl⟩
              rw [hf] at HH4 HSucc HBnd
              have HNL := Aside0.mk (nbsI_len n i)
              have HNM := Aside0.mk (fun (x : Int) (hx : x ∈ nbsI n i) => nbsI_mem hx)
              clear hf hpc x1 q1 q2'
              go_loopg [11, 55] (nbsI n i).length (fun q v11 v55 wr3 => ∃ (j : Nat), wr3 = w3 ∧ v55 = .int .i64 j ∧ j + q = (nbsI n i).length ∧ v11 = .int .i64 (((nbN n i).take j).foldl (low f) (-1)))
              case atStart => exact ⟨0, rfl, rfl, by omega, rfl⟩
              case round =>
                obtain ⟨j, rfl, rfl, hjq, rfl⟩ := hrel
                by_cases hj : j < (nbsI n i).length
                · obtain ⟨q3, rfl⟩ : ∃ q3, gk = q3 + 1 := ⟨gk - 1, by omega⟩
                  have hd3 : decide ((j : Int) < ((nbsI n i).length : Int)) = true := decide_eq_true (by omega)
                  obtain ⟨a3, e3, x3⟩ := Kd.at_int HC3.out (j : Int) (by omega) (by omega)
                  subst e3
                  have hrd : rd (nbsI n i) (j : Int) = (nbsI n i)[j] := by unfold rd; rw [Int.toNat_natCast, List.getD_eq_getElem?_getD, List.getElem?_eq_getElem hj]; rfl
                  have hmem := HNM.out _ (List.getElem_mem hj)
                  obtain ⟨x, hx⟩ : ∃ x : Nat, (nbsI n i)[j] = (x : Int) := ⟨(nbsI n i)[j].toNat, by omega⟩
                  have hst : ((nbN n i).take (j + 1)).foldl (low f) (-1) = low f (((nbN n i).take j).foldl (low f) (-1)) x := by
                    have hjn : j < (nbN n i).length := by unfold nbN; rw [List.length_map]; exact hj
                    rw [List.take_succ_eq_append_getElem hjn, List.foldl_append]
                    rw [nbN_get hjn hj hx]
                    rfl
                  have HST := Aside0.mk hst
                  have hj6 : j ≤ 6 := by have := HNL.out; omega
                  rw [Int.toNat_natCast, hrd, hx] at x3
                  have hxN : x < N := by have := hmem.2; rw [hx, HN.out] at this; omega
                  have y1 := intAt HH4.out x (by rw [valsL_length]; exact hxN)
                  rw [valsL_get] at y1
                  have hbf := HBnd.out x
                  have hbb := fold_bd HBnd.out ((nbN n i).take j) (-1) (by omega) (by omega)
                  obtain ⟨fx, hfx⟩ : ∃ fx, f x = fx := ⟨_, rfl⟩
                  obtain ⟨bst, hbst⟩ : ∃ bst, ((nbN n i).take j).foldl (low f) (-1) = bst := ⟨_, rfl⟩
                  rw [hbst] at HST hbb ⊢
                  rw [hfx] at y1 hbf
                  have HFX := Aside0.mk hfx
                  obtain ⟨hbf1, hbf2⟩ := hbf
                  obtain ⟨hbb1, hbb2⟩ := hbb
                  clear hst hrd hmem hx hfx hbst
                  by_cases g1 : 0 ≤ fx
                  · have e1 : decide (0 ≤ fx) = true := decide_eq_true g1
                    by_cases g2 : bst < 0
                    · have e2 : decide (bst < 0) = true := decide_eq_true g2
                      have HV := Aside0.mk (show low f bst x = fx + 1 by unfold low; rw [HFX.out, if_pos ⟨g1, .inl g2⟩])
                      go_wp2
                      go_roundg q3
                      case measure => omega
                      case rel => exact ⟨j + 1, rfl, by go_num, by omega, by rw [HST.out, HV.out]⟩
                    · have e2 : decide (bst < 0) = false := decide_eq_false g2
                      by_cases g3 : fx + 1 < bst
                      · have e3 : decide (fx + 1 < bst) = true := decide_eq_true g3
                        have HV := Aside0.mk (show low f bst x = fx + 1 by unfold low; rw [HFX.out, if_pos ⟨g1, .inr g3⟩])
                        go_wp2
                        go_roundg q3
                        case measure => omega
                        case rel => exact ⟨j + 1, rfl, by go_num, by omega, by rw [HST.out, HV.out]⟩
                      · have e3 : decide (fx + 1 < bst) = false := decide_eq_false g3
                        have HV := Aside0.mk (show low f bst x = bst by unfold low; rw [HFX.out, if_neg (by omega)])
                        go_wp2
                        go_roundg q3
                        case measure => omega
                        case rel => exact ⟨j + 1, rfl, by go_num, by omega, by rw [HST.out, HV.out]⟩
                  · have e1 : decide (0 ≤ fx) = false := decide_eq_false g1
                    have HV := Aside0.mk (show low f bst x = bst by unfold low; rw [HFX.out, if_neg (by omega)])
                    go_wp2
                    go_roundg q3
                    case measure => omega
                    case rel => exact ⟨j + 1, rfl, by go_num, by omega, by rw [HST.out, HV.out]⟩
                · obtain rfl : gk = 0 := by omega
                  obtain rfl : j = (nbsI n i).length := by omega
                  have hd3 : decide (((nbsI n i).length : Int) < ((nbsI n i).length : Int)) = false := decide_eq_false (by omega)
                  have HFin := Aside0.mk (show best (ownF S pl) (lastF n pl) (nbN n) f i = ((nbN n i).take (nbsI n i).length).foldl (low f) (-1) by
                    unfold best
                    rw [if_pos (by unfold ownF; exact decide_eq_true HO1.out), HI.out, List.take_of_length_le (by unfold nbN; rw [List.length_map]; exact Nat.le_refl _)])
                  obtain ⟨bst, hbst⟩ : ∃ bst, ((nbN n i).take (nbsI n i).length).foldl (low f) (-1) = bst := ⟨_, rfl⟩
                  rw [hbst] at HFin ⊢
                  clear hbst
                  have y1 := intAt HH4.out i (by rw [valsL_length]; exact hlt2)
                  have y2 := intFree HH4.out i
                  have HH5 := Aside0.mk (intSet HH4.out i bst)
                  rw [← HFin.out, valsL_upd hlt2, ← HSucc.out, HFin.out] at HH5
                  have HB5 := Aside0.mk (HB4.out.setCell (p := ⟨g, i, none⟩) HG (.int .i64 bst))
                  go_wp2
                  go_roundg q2
                  case measure => omega
                  case rel => exact ⟨i + 1, by go_num, by omega, HH5, HB5⟩
          · have hcost : (if cv = pl then (1 : Int) else -1) = -1 := if_neg ho1
            have HSame := Aside0.mk (show swp n S pl k (i + 1) = swp n S pl k i by rw [HSucc.out]; exact upd_same (by unfold ownF; rw [HCV.out]; exact decide_eq_false ho1))
            clear ho1
            go_wp2_with (go_at_call 76; refine (cost_calls bp cv pl _ hpc).mono ?_; rintro e w5 ⟨rfl, rfl⟩)
            go_roundg q2
            case measure => omega
            case rel => exact ⟨i + 1, by go_num, by omega, by rw [HSame.out]; exact HH2, HB2⟩
        · obtain rfl : gk = 0 := by omega
          obtain rfl : i = N := by omega
          have hd2 : decide ((i : Int) < (i : Int)) = false := decide_eq_false (by omega)
          go_wp2
          go_roundg q
          case measure => omega
          case rel => exact ⟨k + 1, by go_num, by omega, by rw [HNx.out]; exact HH2, HB2⟩
    · obtain rfl : gk = 0 := by omega
      obtain rfl : k = N := by omega
      have hd1 : decide ((k : Int) < (k : Int)) = false := decide_eq_false (by omega)
      go_wp2
      go_ret
      exact ⟨g, rfl, HH.out, HB.out⟩
end Go.Proofs.YtldohjlcckbfaaaGreatDoor.Hand
