import Derived.Test.YtndpnlpidphflaaProg
import Derived.Below
import Derived.Deep.Draws
import Derived.Deep.AppendLies
import Derived.Maps.AppendAt
import Derived.OwnWalk
import Derived.Laws.BytesArg
import Derived.Laws.MakeOwn
import Derived.Laws.OwnMore
import Derived.Deep.OwnRows
import Derived.Tactics
import Derived.Lib.ConvBytes
import Derived.Laws.Slices
import Derived.WalkKit
import Derived.KernelRfl
import Derived.RowKit3
import Derived.Deep.LoopGhost
import Derived.Deep.QuietTactic
import Derived.BigQuiet
import Derived.WideLaws
import Derived.Deep.DeepCutAuto
import Derived.Deep.CutBlock
import Derived.Deep.RegionHeld3
import Derived.Laws.Rows
import Derived.Lib.AppendStr
import Derived.ArgAppend
import Derived.Laws.IdiomCopy
import Derived.OrdersHeld
import Derived.Laws.BitsLemmas
import Derived.RowKit
import Derived.Test.YtndpnlpidphflaaWWords
import Derived.Test.YtndpnlpidphflaaWLast
import Derived.Test.YtndpnlpidphflaaWTab
import Derived.Test.YtndpnlpidphflaaWFour
import Derived.Test.YtndpnlpidphflaaWQPut
import Derived.Test.YtndpnlpidphflaaWApart
import Derived.Test.YtndpnlpidphflaaWArr
import Derived.Test.YtndpnlpidphflaaWZeros
import Derived.Test.YtndpnlpidphflaaWFoot
import Derived.Test.YtndpnlpidphflaaWKept
import Derived.Test.YtndpnlpidphflaaWShare
import Derived.Test.YtndpnlpidphflaaWN
import Derived.Test.YtndpnlpidphflaaWFootNe
import Derived.Test.YtndpnlpidphflaaWAt
import Derived.Test.YtndpnlpidphflaaWEqStruct
import Derived.Test.YtndpnlpidphflaaWRepsOne
import Derived.Test.YtndpnlpidphflaaWInv
import Derived.Test.YtndpnlpidphflaaWInvWords
import Derived.Test.YtndpnlpidphflaaWGuard
import Derived.Test.YtndpnlpidphflaaWNEv
import Derived.Test.YtndpnlpidphflaaWMore
import Derived.Test.YtndpnlpidphflaaHandA
import Derived.Test.YtndpnlpidphflaaPre1
import Derived.Test.YtndpnlpidphflaaMath
namespace Go.Proofs.Ytndpnlpidphflaa.Hand
open Go.RowKit Go.Proofs.YtndpnlpidphflaaW.PrintWords Go.Proofs.YtndpnlpidphflaaW.PrintLast Go.Proofs.YtndpnlpidphflaaW.PrintMore
set_option linter.unusedVariables false
set_option linter.unusedSimpArgs false

open Go.Proofs.Ytndpnlpidphflaa.Pre

theorem jst_take (k : Int) (n i : Nat) (d : Nat) : (jst k n (i + d)).1.take i = (jst k n i).1 := by
  induction d with
  | zero => rw [Nat.add_zero, List.take_of_length_le (by rw [jst_out]; omega)]
  | succ d ih =>
    show (jst k n (i + d + 1)).1.take i = _
    simp only [jst]
    rw [List.take_append_of_le_length (by rw [jst_out]; omega), ih]

/-- The function value of a caller whose blocks begin at b. -/
def callV (b : Nat) : Value := .func (.func 56) #[] #[.pointer (some ⟨b + 3, 0, none⟩), .pointer (some ⟨b, 0, none⟩), .pointer (some ⟨b + 2, 0, none⟩)]

set_option maxHeartbeats 1000000 in
set_option maxRecDepth 100000 in
theorem cmp_any (b bc : Nat) (at_ k c : Int) (n x : Nat) (left : List Int) (w : World) (h : CSt w b at_ k n left) (hv : w.heap[bc]? = some (.cells #[.func (.func 56) #[] #[.pointer (some ⟨b + 3, 0, none⟩), .pointer (some ⟨b, 0, none⟩), .pointer (some ⟨b + 2, 0, none⟩)]] 55 (0, 0)))
    (hx : x < left.length) (hn : n ≤ 1000000) (h0 : 0 ≤ at_) (h1 : at_ ≤ 1000000) (hk0 : 1 ≤ k) (hk1 : k ≤ 1000000) (hm : (at_ + k - 1) % (left.length : Int) = (x : Int)) :
    Calls Try.prog 52 #[.int .i64 c, .pointer (some ⟨bc, 0, none⟩)] w fun e w' =>
      e = .returned (.bool (left.getD x 0 != c)) ∧ CSt w' b x k n (left.eraseIdx x) ∧ Stays w w' b := by
  have cV := cell_of_one hv
  have HS := Aside0.mk (call_step b at_ k n x left w h hx hn h0 h1 hk0 hk1 hm)
  clear h hv hm hx
  go_enter Try.func52, Try.ntmps52
  go_wp2_with fail
  refine HS.out.mono ?_
  rintro e w2 ⟨rfl, hc2, hs2⟩
  have HC2 := Aside0.mk hc2
  have HS2 := Aside0.mk hs2
  clear hc2 hs2 cV HS
  go_wp2
  go_ret
  exact ⟨rfl, HC2.out, HS2.out⟩

def Cmp (l : List Int) (k : Int) (n : Nat) (r : Int) : Prop := (l = (jst k n l.length).1 → r = -1) ∧ (l ≠ (jst k n l.length).1 → 0 ≤ r)

theorem take_snoc_rd {l : List Int} {j : Nat} (h : j < l.length) : l.take (j + 1) = l.take j ++ [rd l j] := by
  rw [List.take_succ_eq_append_getElem h]
  simp [rd, h]
theorem cmp_no {l : List Int} {k : Int} {n j : Nat} {v : Int} {q : Int} {left : List Int} (h : l = (jst k n l.length).1) (h1 : l.take j = (jst k n j).1) (hj : j < l.length) (hJ : jst k n (j + 1) = ((jst k n j).1 ++ [v], q, left)) : v = rd l j := by
  have e1 := take_snoc_rd hj
  have e2 := jst_take k n (j + 1) (l.length - (j + 1))
  rw [show j + 1 + (l.length - (j + 1)) = l.length by omega, ← h, e1, hJ, h1] at e2
  simpa using e2.symm

set_option maxHeartbeats 2000000 in
set_option maxRecDepth 100000 in
theorem index_any (w0 : World) (A : Option Addr) (c : Nat) (l : List Int) (b bc : Nat) (k : Int) (n : Nat) (w : World) (hC : Kd.C (Kd.int .i64) w0 A l.length l) (hB : Below w0.heap.size w0 w) (hb : w0.heap.size ≤ b) (hl : l.length ≤ n)
    (h : CSt w b 0 k n (ids n)) (hbc : b + 4 ≤ bc) (hv : w.heap[bc]? = some (.cells #[.func (.func 56) #[] #[.pointer (some ⟨b + 3, 0, none⟩), .pointer (some ⟨b, 0, none⟩), .pointer (some ⟨b + 2, 0, none⟩)]] 55 (0, 0)))
    (hn : n ≤ 1000000) (hk0 : 1 ≤ k) (hk1 : k ≤ 1000000) :
    Calls Try.prog 58 #[.slice A l.length c, .func (.func 52) #[] #[.pointer (some ⟨bc, 0, none⟩)]] w fun e w' =>
      ∃ r, e = .returned (.int .i64 r) ∧ Aside0 (Cmp l k n r) ∧ Below w0.heap.size w0 w' := by
  have HC := Aside0.mk hC
  have HI : Aside0 (l.take 0 = (jst k n 0).1 ∧ CSt w b (jst k n 0).2.1 k n (jst k n 0).2.2 ∧ w.heap[bc]? = some (.cells #[.func (.func 56) #[] #[.pointer (some ⟨b + 3, 0, none⟩), .pointer (some ⟨b, 0, none⟩), .pointer (some ⟨b + 2, 0, none⟩)]] 55 (0, 0)) ∧ Below w0.heap.size w0 w) := ⟨by simp [jst], h, hv, hB⟩
  clear hC h hv hB
  go_enter Try.func58, Try.ntmps58
  go_wp2
  go_loopw [8] (fun v wr => ∃ j : Nat, j ≤ l.length ∧ v = .int .i64 j ∧ Aside0 (l.take j = (jst k n j).1 ∧ CSt wr b (jst k n j).2.1 k n (jst k n j).2.2 ∧ wr.heap[bc]? = some (.cells #[.func (.func 56) #[] #[.pointer (some ⟨b + 3, 0, none⟩), .pointer (some ⟨b, 0, none⟩), .pointer (some ⟨b + 2, 0, none⟩)]] 55 (0, 0)) ∧ Below w0.heap.size w0 wr)) (fun v _ => l.length - (intOf v).toNat)
  case atStart => exact ⟨0, Nat.zero_le _, rfl, HI⟩
  case round =>
    clear HI
    obtain ⟨j, hj, rfl, HF⟩ := hrel
    by_cases hlt : j < l.length
    · obtain ⟨h1, h2, h3, h4⟩ := HF.out
      have hjl := jst_left k n j (by omega)
      have ha := jst_at k n j (by omega)
      have hm := mod_at (a := (jst k n j).2.1 + k - 1) (n := (jst k n j).2.2.length) (by omega)
      obtain ⟨x, hx⟩ : ∃ x : Nat, ((jst k n j).2.1 + k - 1) % ((jst k n j).2.2.length : Int) = (x : Int) := ⟨_, (Int.toNat_of_nonneg hm.1).symm⟩
      have hxl : x < (jst k n j).2.2.length := by omega
      obtain ⟨v, hv⟩ : ∃ v, (jst k n j).2.2.getD x 0 = v := ⟨_, rfl⟩
      have hs := cmp_any b bc _ k (rd l j) n x _ wr h2 h3 hxl hn ha.1 (by omega) hk0 hk1 hx
      rw [hv] at hs
      have HS := Aside0.mk hs
      clear hs
      have ej : jst k n (j + 1) = ((jst k n j).1 ++ [v], (x : Int), (jst k n j).2.2.eraseIdx x) := by
        simp only [jst, hx, Int.toNat_natCast, hv]
      have HJ := Aside0.mk ej
      obtain ⟨ad, e, hcx⟩ := Kd.at_int (Kd.C_below HC.out h4) j (by omega) (by omega)
      cases e
      rw [Int.toNat_natCast] at hcx
      have H1 := Aside0.mk h1
      have H3 := Aside0.mk h3
      have H4 := Aside0.mk h4
      clear h1 h2 h3 h4 hjl ha hm hx hxl ej HF hv
      by_cases hc : v = rd l j
      · have hcb : (v != rd l (j : Int)) = false := by rw [hc]; exact bne_self_eq_false _
        have HN := Aside0.mk (take_snoc_rd hlt)
        have HJ2 : Aside0 (l.take (j + 1) = (jst k n (j + 1)).1) := ⟨by rw [HJ.out, HN.out, H1.out, hc]⟩
        clear hc HN
        go_wp2_with fail
        refine HS.out.mono ?_
        rintro e w2 ⟨rfl, hc2, hs2⟩
        have HF2 : Aside0 (l.take (j + 1) = (jst k n (j + 1)).1 ∧ CSt w2 b (jst k n (j + 1)).2.1 k n (jst k n (j + 1)).2.2 ∧ w2.heap[bc]? = some (.cells #[.func (.func 56) #[] #[.pointer (some ⟨b + 3, 0, none⟩), .pointer (some ⟨b, 0, none⟩), .pointer (some ⟨b + 2, 0, none⟩)]] 55 (0, 0)) ∧ Below w0.heap.size w0 w2) := ⟨HJ2.out, by rw [HJ.out]; exact hc2, (hs2.block bc (.inr hbc)).trans H3.out, below_stays hs2 hb H4.out⟩
        clear hc2 hs2 HS HJ H1 H3 H4 HJ2 hcx
        go_wp2
        go_roundw
        case rel => exact ⟨j + 1, by omega, by go_num, HF2⟩
        case measure => simp [intOf]; omega
      · have hcb : (v != rd l (j : Int)) = true := bne_iff_ne.mpr hc
        have HN : Aside0 (Cmp l k n j) := ⟨⟨fun h => absurd (cmp_no h H1.out hlt HJ.out) hc, fun _ => by omega⟩⟩
        clear hc
        go_wp2_with fail
        refine HS.out.mono ?_
        rintro e w2 ⟨rfl, hc2, hs2⟩
        have HB2 := Aside0.mk (below_stays hs2 hb H4.out)
        clear hc2 hs2 HS HJ H1 H3 H4 hcx
        go_wp2
        go_ret
        exact ⟨_, rfl, HN, HB2.out⟩
    · obtain rfl : j = l.length := by omega
      have HN : Aside0 (Cmp l k n (-1)) := ⟨⟨fun _ => rfl, fun h => absurd (by have := HF.out.1; rwa [List.take_length] at this) h⟩⟩
      have HB2 := Aside0.mk HF.out.2.2.2
      clear HF
      go_wp2
      go_ret
      exact ⟨_, rfl, HN, HB2.out⟩

set_option maxHeartbeats 1000000 in
set_option maxRecDepth 100000 in
theorem contains_any (w0 : World) (A : Option Addr) (c : Nat) (l : List Int) (b bc : Nat) (k : Int) (n : Nat) (w : World) (hC : Kd.C (Kd.int .i64) w0 A l.length l) (hB : Below w0.heap.size w0 w) (hb : w0.heap.size ≤ b) (hl : l.length ≤ n)
    (h : CSt w b 0 k n (ids n)) (hbc : b + 4 ≤ bc) (hv : w.heap[bc]? = some (.cells #[.func (.func 56) #[] #[.pointer (some ⟨b + 3, 0, none⟩), .pointer (some ⟨b, 0, none⟩), .pointer (some ⟨b + 2, 0, none⟩)]] 55 (0, 0)))
    (hn : n ≤ 1000000) (hk0 : 1 ≤ k) (hk1 : k ≤ 1000000) :
    Calls Try.prog 51 #[.slice A l.length c, .func (.func 52) #[] #[.pointer (some ⟨bc, 0, none⟩)]] w fun e w' =>
      e = .returned (.bool (!(decide (l = (jst k n l.length).1)))) ∧ Below w0.heap.size w0 w' := by
  have HI := Aside0.mk (index_any w0 A c l b bc k n w hC hB hb hl h hbc hv hn hk0 hk1)
  clear hC hB hb h hbc hv
  go_enter Try.func51, Try.ntmps51
  go_wp2_with fail
  refine HI.out.mono ?_
  rintro e w2 ⟨r, rfl, hr, hB⟩
  by_cases he : l = (jst k n l.length).1
  · have hr1 : r = -1 := hr.out.1 he
    subst hr1
    have he' : decide (l = (jst k n l.length).1) = true := decide_eq_true he
    have HE := Aside0.mk he'
    have HB := Aside0.mk hB
    clear he hr hB he' HI
    go_wp2
    go_ret
    exact ⟨by rw [HE.out]; rfl, HB.out⟩
  · have hr0 : 0 ≤ r := hr.out.2 he
    have he' : decide (l = (jst k n l.length).1) = false := decide_eq_false he
    have HE := Aside0.mk he'
    have HB := Aside0.mk hB
    clear he hr hB he' HI
    go_wp2
    go_ret
    exact ⟨by rw [HE.out]; simp [hr0], HB.out⟩

/-! The list that is asked for. -/
theorem C_take {w : World} {A : Option Addr} {l : List Int} (h : Kd.C (Kd.int .i64) w A l.length l) (j : Nat) (hj : j ≤ l.length) : Kd.C (Kd.int .i64) w A (l.take j).length (l.take j) := by
  obtain ⟨h1, h2, h3⟩ := h
  have hl : (l.take j).length = j := by simp; omega
  refine ⟨rfl, by omega, fun hp => ?_⟩
  obtain ⟨ad, e, hc⟩ := h3 (by omega)
  refine ⟨ad, e, fun i p hi => hc i p ?_⟩
  have := (List.getElem?_eq_some_iff.1 hi).1
  rw [List.getElem?_take_of_lt (by omega)] at hi
  exact hi

theorem index_loop (l : List Int) (v : Int) (hl : l.length ≤ 1000000) (d : Nat) : ∀ i : Nat, i ≤ l.length → l.length - i = d → ∃ r, Ev (fun f => slices_Index_int_int.l0 f l v l.length i) r ∧ ((l.drop i).contains v = true → 0 ≤ r) ∧ ((l.drop i).contains v = false → r = -1) := by
  induction d with
  | zero =>
    intro i h1 h2
    refine ⟨-1, Ev.step (f := fun _ => some (-1)) (fun f => ?_) (Ev.now _), fun h => ?_, fun _ => rfl⟩
    · simp only [slices_Index_int_int.l0]
      rw [if_neg (by omega)]
    · rw [List.drop_of_length_le (by omega)] at h
      simp at h
  | succ d ih =>
    intro i h1 h2
    have hi : i < l.length := by omega
    have hd : l.drop i = l[i] :: l.drop (i + 1) := List.drop_eq_getElem_cons hi
    have hr : rd l (i : Int) = l[i] := by simp [rd, hi]
    by_cases he : v = l[i]
    · refine ⟨(i : Int), Ev.step (f := fun _ => some (i : Int)) (fun f => ?_) (Ev.now _), fun _ => by omega, fun h => ?_⟩
      · simp only [slices_Index_int_int.l0]
        rw [if_pos (by omega), if_pos (by omega), if_pos (by omega), hr, if_pos he]
      · rw [hd, ← he] at h
        simp at h
    · obtain ⟨r, e, p1, p2⟩ := ih (i + 1) (by omega) (by omega)
      have hcn : (l.drop i).contains v = (l.drop (i + 1)).contains v := by rw [hd, List.contains_cons]; simp [he]
      refine ⟨r, Ev.step (fun f => ?_) e, fun h => p1 (by rw [← hcn]; exact h), fun h => p2 (by rw [← hcn]; exact h)⟩
      simp only [slices_Index_int_int.l0]
      rw [if_pos (by omega), if_pos (by omega), if_pos (by omega), hr, if_neg he, show wrap64 ((i : Int) + 1) = ((i + 1 : Nat) : Int) by unfold wrap64; omega]

theorem cont_any (A : Option Addr) (c j : Nat) (l : List Int) (v : Int) (w : World) (hC : Kd.C (Kd.int .i64) w A l.length l) (hj : j ≤ l.length) (hc : l.length ≤ c) (hl : l.length ≤ 1000000) :
    Calls Try.prog 49 #[.slice A j c, .int .i64 v] w fun e w' => e = .returned (.bool ((l.take j).contains v)) ∧ Drawn0 w w' := by
  have hlen : (l.take j).length = j := by simp; omega
  obtain ⟨r, ⟨K, e⟩, p1, p2⟩ := index_loop (l.take j) v (by omega) _ 0 (by omega) rfl
  rw [List.drop_zero] at p1 p2
  have hf : slices_Contains_int_int.f K (l.take j) v = some ((l.take j).contains v) := by
    unfold slices_Contains_int_int.f slices_Index_int_int.f
    have := e K (Nat.le_refl _)
    dsimp only at this
    rw [show (((0 : Nat)) : Int) = 0 from rfl] at this
    rw [this]
    cases hb : (l.take j).contains v with
    | true => simp [p1 hb]
    | false => simp [p2 hb]
  have := slices_Contains_int_int.calls K A c (l.take j) v _ w (C_take hC j hj) (by omega) hf
  rwa [hlen] at this

/-- Is the customer at a place none, or one that was there before? -/
def badAt (n : Int) (l : List Int) (i : Nat) : Bool := decide (rd l i < 0) || decide (rd l i ≥ n) || (l.take i).contains (rd l i)

def beginsA (n : Int) (l : List Int) : Int × Int :=
  if n < 1 ∨ n > 200 then (0, 2) else if (l.length : Int) > n then (0, 3) else if (List.range l.length).any (badAt n l) then (0, 2)
  else match Math.srch (fun k => decide (l = (jst k n.toNat l.length).1)) 30000 1 with
    | some k => (k, 0)
    | none => (0, 10)

set_option maxHeartbeats 1000000 in
set_option maxRecDepth 100000 in
theorem begins_arg (n : Int) (A : Option Addr) (c : Nat) (l : List Int) (w : World) (hn : n < 1 ∨ n > 200) :
    Calls Try.prog 33 #[.int .i64 n, .slice A l.length c] w fun e w' => e = .returned (.tuple #[.int .i64 0, .int .i64 2]) ∧ Below w.heap.size w w' := by
  rcases hn with h | h
  · have h1 : decide (n < 1) = true := decide_eq_true h
    go_enter Try.func33, Try.ntmps33
    go_wp2_with fail
    go_ret2
    exact ⟨rfl, Below.refl _ _⟩
  · have h1 : decide (n < 1) = false := decide_eq_false (by omega)
    have h2 : decide (200 < n) = true := decide_eq_true h
    go_enter Try.func33, Try.ntmps33
    go_wp2_with fail
    go_ret2
    exact ⟨rfl, Below.refl _ _⟩

set_option maxHeartbeats 1000000 in
set_option maxRecDepth 100000 in
theorem begins_limit (n : Int) (A : Option Addr) (c : Nat) (l : List Int) (w : World) (h0 : 1 ≤ n) (h1 : n ≤ 200) (hl : (l.length : Int) > n) :
    Calls Try.prog 33 #[.int .i64 n, .slice A l.length c] w fun e w' => e = .returned (.tuple #[.int .i64 0, .int .i64 3]) ∧ Below w.heap.size w w' := by
  have h2 : decide (n < 1) = false := decide_eq_false (by omega)
  have h3 : decide (200 < n) = false := decide_eq_false (by omega)
  go_enter Try.func33, Try.ntmps33
  go_wp2_with fail
  go_ret2
  exact ⟨rfl, Below.refl _ _⟩

end Go.Proofs.Ytndpnlpidphflaa.Hand
