import Derived.Test.YtndpnlpidphflaaProg
import Derived.Below
import Derived.Deep.Draws
import Derived.Deep.AppendLies
import Derived.Maps.AppendAt
import Derived.OwnWalk
import Derived.Laws.BytesArg
import Derived.Laws.MakeOwn
import Derived.Laws.OwnMore
import Derived.Deep.OwnRows
import Derived.Tactics
import Derived.Lib.ConvBytes
import Derived.Laws.Slices
import Derived.WalkKit
import Derived.KernelRfl
import Derived.RowKit3
import Derived.Deep.LoopGhost
import Derived.Deep.QuietTactic
import Derived.BigQuiet
import Derived.WideLaws
import Derived.Deep.DeepCutAuto
import Derived.Deep.CutBlock
import Derived.Deep.RegionHeld3
import Derived.Laws.Rows
import Derived.Lib.AppendStr
import Derived.ArgAppend
import Derived.Laws.IdiomCopy
import Derived.OrdersHeld
import Derived.Laws.BitsLemmas
import Derived.RowKit
import Derived.Test.YtndpnlpidphflaaWWords
import Derived.Test.YtndpnlpidphflaaWLast
import Derived.Test.YtndpnlpidphflaaWTab
import Derived.Test.YtndpnlpidphflaaWFour
import Derived.Test.YtndpnlpidphflaaWQPut
import Derived.Test.YtndpnlpidphflaaWApart
import Derived.Test.YtndpnlpidphflaaWArr
import Derived.Test.YtndpnlpidphflaaWZeros
import Derived.Test.YtndpnlpidphflaaWFoot
import Derived.Test.YtndpnlpidphflaaWKept
import Derived.Test.YtndpnlpidphflaaWShare
import Derived.Test.YtndpnlpidphflaaWN
import Derived.Test.YtndpnlpidphflaaWFootNe
import Derived.Test.YtndpnlpidphflaaWAt
import Derived.Test.YtndpnlpidphflaaWEqStruct
import Derived.Test.YtndpnlpidphflaaWRepsOne
import Derived.Test.YtndpnlpidphflaaWInv
import Derived.Test.YtndpnlpidphflaaWInvWords
import Derived.Test.YtndpnlpidphflaaWGuard
import Derived.Test.YtndpnlpidphflaaWNEv
import Derived.Test.YtndpnlpidphflaaWMore
import Derived.Test.YtndpnlpidphflaaHandC
import Derived.Laws.EntriesVeiled
namespace Go.Proofs.Ytndpnlpidphflaa.Hand
open Go.RowKit Go.Proofs.YtndpnlpidphflaaW.PrintWords Go.Proofs.YtndpnlpidphflaaW.PrintLast Go.Proofs.YtndpnlpidphflaaW.PrintMore
set_option linter.unusedVariables false
set_option linter.unusedSimpArgs false

open Go.Proofs.Ytndpnlpidphflaa.Pre

set_option maxHeartbeats 4000000 in
set_option maxRecDepth 100000 in
theorem begins_main (n : Nat) (A : Option Addr) (c : Nat) (l : List Int) (w : World) (hC : Kd.C (Kd.int .i64) w A l.length l) (hc : l.length ≤ c) (h0 : 1 ≤ n) (h1 : n ≤ 200) (hl : l.length ≤ n) :
    Calls Try.prog 33 #[.int .i64 n, .slice A l.length c] w fun e w' => e = .returned (.tuple #[.int .i64 (beginsA n l).1, .int .i64 (beginsA n l).2]) ∧ Below w.heap.size w w' := by
  have hA : beginsA n l = if (List.range l.length).any (badAt n l) then ((0 : Int), (2 : Int)) else match Math.srch (fun k => decide (l = (jst k n l.length).1)) 30000 1 with | some k => (k, 0) | none => (0, 10) := by
    unfold beginsA
    rw [if_neg (by omega), if_neg (by omega), Int.toNat_natCast]
    rfl
  obtain ⟨res, hres⟩ : ∃ res, beginsA n l = res := ⟨_, rfl⟩
  rw [hres] at hA
  rw [hres]
  have HA := Aside0.mk hA
  clear hA hres
  have HC := Aside0.mk hC
  have h2 : decide ((n : Int) < 1) = false := decide_eq_false (by omega)
  have h3 : decide (200 < (n : Int)) = false := decide_eq_false (by omega)
  have h4 : decide (n < l.length) = false := decide_eq_false (by omega)
  clear hC
  go_enter Try.func33, Try.ntmps33
  go_wp2_with fail
  go_loopw [24] (fun v wr => ∃ j : Nat, j ≤ l.length ∧ v = .int .i64 j ∧ Aside0 ((∀ i, i < j → badAt n l i = false) ∧ Below w.heap.size w wr)) (fun v _ => l.length - (intOf v).toNat)
  case atStart => exact ⟨0, Nat.zero_le _, rfl, ⟨fun i hi => by omega, Below.refl _ _⟩⟩
  case round =>
    obtain ⟨j, hj, rfl, HF⟩ := hrel
    by_cases hlt : j < l.length
    · have hCr := Kd.C_below HC.out HF.out.2
      obtain ⟨ad, e, hcx⟩ := Kd.at_int hCr j (by omega) (by omega)
      cases e
      rw [Int.toNat_natCast] at hcx
      have HCr := Aside0.mk hCr
      obtain ⟨v, hv⟩ : ∃ v, rd l (j : Int) = v := ⟨_, rfl⟩
      rw [hv] at hcx
      have hbad : badAt n l j = (decide (v < 0) || decide (v ≥ n) || (l.take j).contains v) := by unfold badAt; rw [hv]
      have HV := Aside0.mk hbad
      clear hCr hbad hv
      have isbad : badAt n l j = true → res = (0, 2) := fun h => by
        rw [HA.out, if_pos (List.any_eq_true.2 ⟨j, List.mem_range.2 hlt, h⟩)]
      have HD := Aside0.mk isbad
      clear isbad
      by_cases hneg : v < 0
      · have hr : res = (0, 2) := HD.out (by rw [HV.out, decide_eq_true hneg]; rfl)
        subst hr
        have HB := Aside0.mk HF.out.2
        clear HD HV HF HA HC HCr
        go_wp2
        go_ret2
        exact ⟨rfl, HB.out⟩
      · by_cases hge : (n : Int) ≤ v
        · have hr : res = (0, 2) := HD.out (by rw [HV.out, decide_eq_true (show v ≥ n from hge)]; simp)
          subst hr
          have HB := Aside0.mk HF.out.2
          clear HD HV HF HA HC HCr
          go_wp2
          go_ret2
          exact ⟨rfl, HB.out⟩
        · have HS := Aside0.mk (cont_any (some ad) c j l v wr HCr.out (by omega) hc (by omega))
          have HVb : Aside0 (badAt n l j = (l.take j).contains v) := ⟨by rw [HV.out, decide_eq_false hneg, decide_eq_false (show ¬ v ≥ n from hge)]; simp⟩
          obtain ⟨bb, hbb⟩ : ∃ bb, (l.take j).contains v = bb := ⟨_, rfl⟩
          rw [hbb] at HS HVb
          clear hbb HV
          cases bb with
          | true =>
            have hr : res = (0, 2) := HD.out HVb.out
            subst hr
            have HB := Aside0.mk HF.out.2
            clear HD HF HA HC HCr HVb
            go_wp2_with (go_at_call 49; refine HS.out.mono ?_; rintro e w' ⟨rfl, ⟨nd, rfl⟩⟩)
            go_ret2
            exact ⟨rfl, pw_below_drewN HB.out nd⟩
          | false =>
            have HN : Aside0 ((∀ i, i < j + 1 → badAt n l i = false) ∧ Below w.heap.size w wr) := ⟨fun i hi => by
              by_cases e : i = j
              · subst e; exact HVb.out
              · exact HF.out.1 i (by omega), HF.out.2⟩
            clear HD HF HA HCr HVb
            go_wp2_with (go_at_call 49; refine HS.out.mono ?_; rintro e w' ⟨rfl, ⟨nd, rfl⟩⟩)
            go_roundw
            case rel => exact ⟨j + 1, by omega, by go_num, ⟨HN.out.1, pw_below_drewN HN.out.2 nd⟩⟩
            case measure => simp [intOf]; omega
    · obtain rfl : j = l.length := by omega
      have hany : (List.range l.length).any (badAt n l) = false := by
        rw [List.any_eq_false]
        intro i hi
        rw [HF.out.1 i (List.mem_range.1 hi)]
        simp
      have HR : Aside0 (res = match Math.srch (fun k => decide (l = (jst k n l.length).1)) 30000 1 with | some k => (k, 0) | none => (0, 10)) := ⟨by rw [HA.out, hany]; rfl⟩
      have HB := Aside0.mk HF.out.2
      clear hany HF HA
      go_wp2_with fail
      go_loopw [8] (fun v wr => ∃ k : Int, 1 ≤ k ∧ k ≤ 30001 ∧ v = .int .i64 k ∧ Aside0 (Math.srch (fun k => decide (l = (jst k n l.length).1)) 30000 1 = Math.srch (fun k => decide (l = (jst k n l.length).1)) (30001 - k).toNat k ∧ Below w.heap.size w wr)) (fun v _ => (30001 - intOf v).toNat)
      case atStart => exact ⟨1, by omega, by omega, rfl, ⟨rfl, HB.out⟩⟩
      case round =>
        clear HB
        obtain ⟨k, hk0, hk1, rfl, HK⟩ := hrel
        by_cases hk2 : k ≤ 30000
        · have HK2 := Aside0.mk HK.out.2
          go_wp2_with fail
          refine (caller_any n k wr (by omega)).mono ?_
          rintro e w1 ⟨rfl, hc1, hb1, hs1⟩
          have HC1 := Aside0.mk hc1
          have HB1 := Aside0.mk hb1
          clear hc1 hb1
          obtain ⟨bb, hbb⟩ : ∃ bb, decide (l = (jst k n l.length).1) = bb := ⟨_, rfl⟩
          have hsr : Math.srch (fun k => decide (l = (jst k n l.length).1)) (30001 - k).toNat k = if bb = true then some k else Math.srch (fun k => decide (l = (jst k n l.length).1)) (30001 - (k + 1)).toNat (k + 1) := by
            rw [show (30001 - k).toNat = (30001 - (k + 1)).toNat + 1 by omega]
            simp only [Math.srch, hbb]
          have HS := Aside0.mk hsr
          have HH := Aside0.mk (heap_alloc_new w1 (.cells #[.func (.func 56) #[] #[.pointer (some ⟨wr.heap.size + 3, 0, none⟩), .pointer (some ⟨wr.heap.size, 0, none⟩), .pointer (some ⟨wr.heap.size + 2, 0, none⟩)]] 55))
          have HZ := Aside0.mk hs1
          clear hsr
          go_wp2_with fail
          refine (contains_any w A c l wr.heap.size (wr.heap.size + 4) k n _ HC.out ?_ HK2.out.size hl (cst_alloc HC1.out _) (Nat.le_refl _) ?_ (by omega) hk0 (by omega)).mono ?_
          · exact below_alloc (below_then HK2.out HK2.out.size HB1.out) _
          · have := HH.out
            rw [HZ.out] at this
            exact this
          rintro e w2 ⟨rfl, hb2⟩
          have HB2 := Aside0.mk hb2
          rw [hbb]
          clear hb2 hs1 HC1 HB1 HH HZ hbb
          cases bb with
          | true =>
            have hr : res = (k, 0) := by rw [HR.out, HK.out.1, HS.out]; rfl
            subst hr
            clear HR HK HS HC HK2
            go_wp2
            go_ret2
            exact ⟨rfl, HB2.out⟩
          | false =>
            have HN : Aside0 (Math.srch (fun k => decide (l = (jst k n l.length).1)) 30000 1 = Math.srch (fun k => decide (l = (jst k n l.length).1)) (30001 - (k + 1)).toNat (k + 1) ∧ Below w.heap.size w w2) := ⟨by rw [HK.out.1, HS.out]; rfl, HB2.out⟩
            clear HR HK HS HC HK2 HB2
            go_wp2
            go_roundw
            case rel => exact ⟨k + 1, by omega, by omega, by go_num, HN⟩
            case measure => simp [intOf]; omega
        · obtain rfl : k = 30001 := by omega
          have hr : res = (0, 10) := by rw [HR.out, HK.out.1]; rfl
          subst hr
          have HB2 := Aside0.mk HK.out.2
          clear HR HK HC
          go_wp2
          go_ret2
          exact ⟨rfl, HB2.out⟩

/-- 'Begins': for all circles and lists. -/
def pole_Begins.f (a0 : Int) (l1 : List Int) : Option (Int × Int) := some (beginsA a0 l1)
theorem pole_Begins.calls (a0 : Int) (A1 : Option Addr) (c1 : Nat) (l1 : List Int) (r1 : Int) (r2 : Int) (w : World) (hr1 : Kd.C (Kd.int .i64) w A1 l1.length l1) (hc1 : l1.length ≤ c1) (h : pole_Begins.f a0 l1 = some (r1, r2)) :
    Calls Try.prog 33 #[.int .i64 a0, .slice A1 l1.length c1] w fun e w' => e = .returned (.tuple #[.int .i64 r1, .int .i64 r2]) ∧ Below w.heap.size w w' := by
  unfold pole_Begins.f at h
  injection h with h
  by_cases hn : a0 < 1 ∨ a0 > 200
  · have : beginsA a0 l1 = (0, 2) := by unfold beginsA; rw [if_pos hn]
    rw [this] at h
    cases h
    exact begins_arg a0 A1 c1 l1 w hn
  · by_cases hl : (l1.length : Int) > a0
    · have : beginsA a0 l1 = (0, 3) := by unfold beginsA; rw [if_neg hn, if_pos hl]
      rw [this] at h
      cases h
      exact begins_limit a0 A1 c1 l1 w (by omega) (by omega) hl
    · obtain ⟨n, rfl⟩ : ∃ n : Nat, a0 = (n : Int) := ⟨_, (Int.toNat_of_nonneg (by omega)).symm⟩
      have := begins_main n A1 c1 l1 w hr1 hc1 (by omega) (by omega) (by omega)
      rw [h] at this
      exact this

end Go.Proofs.Ytndpnlpidphflaa.Hand
