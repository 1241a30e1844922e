/- What the printed functions of layer 7 come to, in plain lists: the partners and the roads of one arch system with itself. -/
import Derived.Test.YtldohjlcckbfaaaDoorProg
import Derived.Below
import Derived.Deep.Draws
import Derived.Deep.AppendLies
import Derived.Maps.AppendAt
import Derived.OwnWalk
import Derived.Laws.BytesArg
import Derived.Laws.MakeOwn
import Derived.Laws.OwnMore
import Derived.Deep.OwnRows
import Derived.Tactics
import Derived.Lib.ConvBytes
import Derived.Laws.Slices
import Derived.WalkKit
import Derived.KernelRfl
import Derived.RowKit3
import Derived.Deep.LoopGhost
import Derived.Deep.QuietTactic
import Derived.BigQuiet
import Derived.WideLaws
import Derived.Deep.DeepCutAuto
import Derived.Deep.CutBlock
import Derived.Deep.RegionHeld3
import Derived.Laws.Rows
import Derived.Lib.AppendStr
import Derived.ArgAppend
import Derived.Laws.IdiomCopy
import Derived.OrdersHeld
import Derived.Laws.BitsLemmas
import Derived.RowKit
import Derived.Test.YtldohjlcckbfaaaDoorWWords
import Derived.Test.YtldohjlcckbfaaaDoorWLast
import Derived.Test.YtldohjlcckbfaaaDoorWTab
import Derived.Test.YtldohjlcckbfaaaDoorWFour
import Derived.Test.YtldohjlcckbfaaaDoorWQPut
import Derived.Test.YtldohjlcckbfaaaDoorWApart
import Derived.Test.YtldohjlcckbfaaaDoorWArr
import Derived.Test.YtldohjlcckbfaaaDoorWZeros
import Derived.Test.YtldohjlcckbfaaaDoorWFoot
import Derived.Test.YtldohjlcckbfaaaDoorWKept
import Derived.Test.YtldohjlcckbfaaaDoorWShare
import Derived.Test.YtldohjlcckbfaaaDoorWN
import Derived.Test.YtldohjlcckbfaaaDoorWFootNe
import Derived.Test.YtldohjlcckbfaaaDoorWAt
import Derived.Test.YtldohjlcckbfaaaDoorWEqStruct
import Derived.Test.YtldohjlcckbfaaaDoorWRepsOne
import Derived.Test.YtldohjlcckbfaaaDoorWInv
import Derived.Test.YtldohjlcckbfaaaDoorWInvWords
import Derived.Test.YtldohjlcckbfaaaDoorWGuard
import Derived.Test.YtldohjlcckbfaaaDoorWNEv
import Derived.Test.YtldohjlcckbfaaaDoorWMore
import Derived.Test.YtldohjlcckbfaaaDoorEvT
import Derived.Test.YtldohjlcckbfaaaDoorHandP
namespace Go.Proofs.YtldohjlcckbfaaaDoor.Hand
open Go.RowKit Go.Proofs.YtldohjlcckbfaaaDoorW.PrintWords Go.Proofs.YtldohjlcckbfaaaDoorW.PrintLast Go.Proofs.YtldohjlcckbfaaaDoorW.PrintMore
set_option linter.unusedVariables false
set_option linter.unusedSimpArgs false

open Go.Proofs.YtldohjlcckbfaaaDoor.Print Go.Proofs.YtldohjlcckbfaaaDoor.TopMath
theorem strB_at (b : List Bool) (i : Nat) (hi : i < b.length) : bt (strB b) (i : Int) = if b[i] = true then 40 else 41 := by
  have h : (i : Int).toNat < (strB b).size := by rw [strB_size, Int.toNat_natCast]; exact hi
  unfold bt
  rw [dif_pos h]
  have e : (strB b)[(i : Int).toNat]'h = if b[i] = true then (40 : UInt8) else 41 := by
    show ((b.map fun b => if b = true then (40 : UInt8) else 41).toArray)[(i : Int).toNat]'_ = _
    simp
  rw [e]
  split <;> rfl
def ints (l : List Nat) : List Int := l.map fun (x : Nat) => (x : Int)
theorem ints_length (l : List Nat) : (ints l).length = l.length := by simp [ints]
theorem ints_get (l : List Nat) (i : Nat) : (ints l)[i]? = (l[i]?).map fun (x : Nat) => (x : Int) := by simp [ints]
theorem ints_set (l : List Nat) (i x : Nat) : ints (l.set i x) = (ints l).set i (x : Int) := by unfold ints; rw [List.map_set]
theorem ints_rd {l : List Nat} {i r : Nat} (h : l[i]? = some r) : rd (ints l) (i : Int) = (r : Int) := by
  unfold rd
  rw [Int.toNat_natCast, List.getD_eq_getElem?_getD, ints_get, h]; rfl
def partR : Option (List Nat) → List Int × Int
  | some a => (ints a, 0)
  | none => ([], 5)
theorem ev_partners (b : List Bool) (hb0 : b ≠ []) (hb : b.length ≤ 1000) : ∀ (t : List Bool) (i : Nat) (o out : List Nat), b.drop i = t → i + t.length = b.length → out.length = b.length → o.length ≤ i → (∀ q ∈ o, q < b.length) →
    Ev (fun k => plait_partners.l0 k (strB b) (ints out) (ints o.reverse) ((strB b).size : Int) (i : Int)) (partR (TopMath.part t i o out))
  | [], i, o, out, ht, hi, hout, hol, ho => by
    have hsz := strB_size b
    simp only [List.length_nil, Nat.add_zero] at hi
    have hne : ¬ (strB b).toList = ([] : List UInt8) := by
      intro h
      have h1 : (strB b).toList.length = b.length := by rw [ByteArray.toList_eq, Array.length_toList]; exact strB_size b
      rw [h] at h1
      cases b with
      | nil => exact hb0 rfl
      | cons _ _ => simp at h1
    refine Ev.step (f := fun _ => some (partR (TopMath.part [] i o out))) (fun k => ?_) (Ev.now _)
    simp only [plait_partners.l0]
    rw [if_neg (by omega), ints_length, List.length_reverse]
    cases o with
    | nil => rw [if_neg (by simp), if_neg hne]; rfl
    | cons q o => rw [if_pos (by rw [List.length_cons]; omega)]; rfl
  | true :: t, i, o, out, ht, hi, hout, hol, ho => by
    have hsz := strB_size b
    rw [List.length_cons] at hi
    have hlt : i < b.length := by omega
    have hbi : b[i] = true ∧ b.drop (i + 1) = t := by rw [List.drop_eq_getElem_cons hlt] at ht; exact ⟨(List.cons.inj ht).1, (List.cons.inj ht).2⟩
    have hv : bt (strB b) (i : Int) = 40 := by rw [strB_at b i hlt, if_pos hbi.1]
    have ih := ev_partners b hb0 hb t (i + 1) (i :: o) out hbi.2 (by omega) hout (by rw [List.length_cons]; omega) (fun q hq => (List.mem_cons.1 hq).elim (fun e => by omega) (ho q))
    refine Ev.step (fun k => ?_) ih
    simp only [plait_partners.l0]
    have e : ints (i :: o).reverse = ints o.reverse ++ [(i : Int)] := by simp [ints]
    rw [if_pos (by omega), if_pos (by omega), if_pos (by omega), hv, if_pos rfl, if_pos (by rw [ints_length, List.length_reverse]; omega), w64 (by omega), e]; rfl
  | false :: t, i, [], out, ht, hi, hout, hol, ho => by
    have hsz := strB_size b
    rw [List.length_cons] at hi
    have hlt : i < b.length := by omega
    have hbi : b[i] = false := by rw [List.drop_eq_getElem_cons hlt] at ht; exact (List.cons.inj ht).1
    have hv : bt (strB b) (i : Int) = 41 := by rw [strB_at b i hlt, if_neg (by rw [hbi]; decide)]
    refine Ev.step (f := fun _ => some ([], 5)) (fun k => ?_) (Ev.now _)
    simp only [plait_partners.l0]
    rw [if_pos (by omega), if_pos (by omega), if_pos (by omega), hv, if_neg (by decide), if_pos rfl, if_neg (by simp [ints])]
  | false :: t, i, q :: o, out, ht, hi, hout, hol, ho => by
    have hsz := strB_size b
    rw [List.length_cons] at hi
    rw [List.length_cons] at hol
    have hlt : i < b.length := by omega
    have hbi : b[i] = false ∧ b.drop (i + 1) = t := by rw [List.drop_eq_getElem_cons hlt] at ht; exact ⟨(List.cons.inj ht).1, (List.cons.inj ht).2⟩
    have hq := ho q (by simp)
    have ih := ev_partners b hb0 hb t (i + 1) o ((out.set i q).set q i) hbi.2 (by omega) (by rw [List.length_set, List.length_set]; exact hout) (by omega) (fun p hp => ho p (List.mem_cons_of_mem _ hp))
    refine Ev.step (fun k => ?_) ih
    have hv : bt (strB b) (i : Int) = 41 := by rw [strB_at b i hlt, if_neg (by rw [hbi.1]; decide)]
    have e : ints (q :: o).reverse = ints o.reverse ++ [(q : Int)] := by simp [ints]
    have el : (ints o.reverse ++ [(q : Int)]).length = o.length + 1 := by rw [List.length_append, ints_length, List.length_reverse]; rfl
    have ew : wrap64 (((o.length + 1 : Nat) : Int) - 1) = (o.length : Int) := by rw [w64 (by omega)]; omega
    have er : rd (ints o.reverse ++ [(q : Int)]) (o.length : Int) = (q : Int) := by
      unfold rd
      rw [Int.toNat_natCast, List.getD_eq_getElem?_getD, List.getElem?_append_right (by rw [ints_length, List.length_reverse]; exact Nat.le_refl _), ints_length, List.length_reverse, Nat.sub_self]; rfl
    have et : (ints o.reverse ++ [(q : Int)]).take o.length = ints o.reverse := by rw [List.take_append_of_le_length (by rw [ints_length, List.length_reverse]; exact Nat.le_refl _), List.take_of_length_le (by rw [ints_length, List.length_reverse]; exact Nat.le_refl _)]
    simp only [plait_partners.l0]
    rw [if_pos (by omega), if_pos (by omega), if_pos (by omega), hv, if_neg (by decide), if_pos rfl, e, el, ew, er, if_pos (by omega), if_pos (by omega), if_pos (by omega), if_pos (by omega), ints_length, hout, if_pos (by omega), if_pos (by omega), if_pos (by omega)]
    rw [Int.toNat_natCast, Int.toNat_natCast, Int.toNat_natCast, et, w64 (by omega), ints_set, ints_set]; rfl
theorem ev_partnersF (b : List Bool) (hb0 : b ≠ []) (hb : b.length ≤ 24) : Ev (fun k => plait_partners.f k (strB b)) (partR (TopMath.part b 0 [] (List.replicate b.length 0))) := by
  have h := ev_partners b hb0 (by omega) b 0 [] (List.replicate b.length 0) rfl (by omega) (by simp) (Nat.le_refl _) (fun q h => by simp at h)
  refine Ev.congr (fun k => ?_) h
  have hsz := strB_size b
  unfold plait_partners.f
  rw [if_neg (by omega), if_pos (by omega), if_pos (by rw [Int.toNat_natCast]; omega), Int.toNat_natCast, hsz]
  have e : ints (List.replicate b.length 0) = List.replicate b.length 0 := by simp [ints]
  rw [e]; rfl
/-- The roads of an arch system with itself: each place and its partner. -/
theorem ev_roads {a : List Nat} (ha : Pairs a) (hal : a.length ≤ 1000) : ∀ (d i : Nat) (s : List Bool) (m : Nat), i + d = a.length → Seen a i s → up s 0 = 2 * m → m ≤ i →
    Ev (fun k => plait_roads.l0 k (ints a) (ints a) s (m : Int) (a.length : Int) (i : Int)) ((a.length / 2 : Nat) : Int)
  | 0, i, s, m, hi, hs, hm, hmi => by
    obtain rfl : i = a.length := by omega
    have h := seen_all ha hs
    refine Ev.step (f := fun _ => some ((a.length / 2 : Nat) : Int)) (fun k => ?_) (Ev.now _)
    simp only [plait_roads.l0]
    rw [if_neg (by omega)]
    congr 1; omega
  | d + 1, i, s, m, hi, hs, hm, hmi => by
    have hlt : i < a.length := by omega
    have hsl : i < s.length := by rw [hs.1]; exact hlt
    have hsg : s[i]? = some s[i] := List.getElem?_eq_getElem hsl
    have hwi : wrap64 ((i : Int) + 1) = ((i + 1 : Nat) : Int) := by rw [w64 (by omega)]; omega
    cases hb : s[i] with
    | true =>
      rw [hb] at hsg
      have ih := ev_roads ha hal d (i + 1) s m (by omega) (seen_skip ha hlt hs hsg) hm (by omega)
      refine Ev.step (fun k => ?_) ih
      simp only [plait_roads.l0]
      rw [if_pos (by omega), if_pos (by omega), if_pos (by omega), rdb_get hsg, if_pos rfl, hwi]
    | false =>
      rw [hb] at hsg
      obtain ⟨r, g1, g2, g3, g4⟩ := ha i hlt
      obtain ⟨h1, h2, _, _⟩ := seen_mark ha g1 hs hsg
      have hrl : r < s.length := by rw [hs.1]; exact g2
      have ih := ev_roads ha hal d (i + 1) ((s.set i true).set r true) (m + 1) (by omega) h1 (by rw [h2, hm]; omega) (by omega)
      have hwm : wrap64 ((m : Int) + 1) = ((m + 1 : Nat) : Int) := by rw [w64 (by omega)]; omega
      have hsi : ((s.set i true).set r true)[i]? = some true := by
        rw [List.getElem?_set_ne g4, List.getElem?_set_self hsl]
      have ih2 : Ev (fun k => plait_roads.l1 k (ints a) (ints a) ((s.set i true).set r true) ((m + 1 : Nat) : Int) (i : Int) (a.length : Int) (i : Int)) ((a.length / 2 : Nat) : Int) := by
        refine Ev.step (fun k => ?_) ih
        simp only [plait_roads.l1]
        rw [if_pos (by omega), if_pos (by rw [List.length_set, List.length_set]; omega), rdb_get hsi, if_pos rfl, hwi]
      have ih1 : Ev (fun k => plait_roads.l1 k (ints a) (ints a) s ((m + 1 : Nat) : Int) (i : Int) (a.length : Int) (i : Int)) ((a.length / 2 : Nat) : Int) := by
        refine Ev.step (fun k => ?_) ih2
        simp only [plait_roads.l1]
        rw [if_pos (by omega), if_pos (by omega), rdb_get hsg, if_neg (by decide), ints_rd g1, ints_rd g3, ints_length, if_pos (by omega), if_pos (by omega), if_pos (by omega), if_pos (by omega), Int.toNat_natCast, Int.toNat_natCast]
      refine Ev.step (fun k => ?_) ih1
      simp only [plait_roads.l0]
      rw [if_pos (by omega), if_pos (by omega), if_pos (by omega), rdb_get hsg, if_neg (by decide), hwm]
theorem ev_roadsF {a : List Nat} (ha : Pairs a) (hal : a.length ≤ 1000) : Ev (fun k => plait_roads.f k (ints a) (ints a)) ((a.length / 2 : Nat) : Int) := by
  have h0 : up (List.replicate a.length false) 0 = 2 * 0 := up_free _ _
  have h := ev_roads ha hal a.length 0 (List.replicate a.length false) 0 (by omega) (seen_none a) h0 (Nat.le_refl _)
  refine Ev.congr (fun k => ?_) h
  unfold plait_roads.f
  rw [ints_length, if_pos (by omega), if_pos (by rw [Int.toNat_natCast]; omega), Int.toNat_natCast]; rfl
theorem ev_Roads (b : List Bool) (hb0 : b ≠ []) (hb : b.length ≤ 24) :
    (scan 0 b = some 0 → Ev (fun k => plait_Roads.f k (strB b) (strB b)) (((b.length / 2 : Nat) : Int), 0)) ∧ (scan 0 b ≠ some 0 → Ev (fun k => plait_Roads.f k (strB b) (strB b)) (0, 5)) := by
  have hp := ev_partnersF b hb0 hb
  have hs := part_start b
  constructor
  · intro h
    obtain ⟨a, h1, h2, h3⟩ := hs.1 h
    rw [h1] at hp
    have hp : Ev (fun k => plait_partners.f k (strB b)) (ints a, 0) := hp
    have hr := ev_roadsF h3 (by omega)
    rw [h2] at hr
    refine Ev.congr (fun k => by unfold plait_Roads.f; rfl) (Ev.bind (f := fun k bt141 => if bt141.2 = 0 then ((plait_partners.f k (strB b)).bind fun bt145 => (if bt145.2 = 0 then (if (bt141.1.length : Int) = (bt145.1.length : Int) then ((plait_roads.f k bt141.1 bt145.1).bind fun t149 => (some (t149, 0))) else (some (0, 2))) else (some (0, bt145.2)))) else (some (0, bt141.2))) hp ?_)
    simp only [if_true]
    refine Ev.bind (f := fun k bt145 => (if bt145.2 = 0 then (if ((ints a).length : Int) = (bt145.1.length : Int) then ((plait_roads.f k (ints a) bt145.1).bind fun t149 => (some (t149, (0 : Int)))) else (some (0, 2))) else (some (0, bt145.2)))) hp ?_
    simp only [if_true]
    exact Ev.bind (f := fun _ t149 => some (t149, (0 : Int))) hr (Ev.now _)
  · intro h
    rw [hs.2 h] at hp
    have hp : Ev (fun k => plait_partners.f k (strB b)) ([], 5) := hp
    refine Ev.congr (fun k => by unfold plait_Roads.f; rfl) (Ev.bind (f := fun k bt141 => if bt141.2 = 0 then ((plait_partners.f k (strB b)).bind fun bt145 => (if bt145.2 = 0 then (if (bt141.1.length : Int) = (bt145.1.length : Int) then ((plait_roads.f k bt141.1 bt145.1).bind fun t149 => (some (t149, 0))) else (some (0, 2))) else (some (0, bt145.2)))) else (some (0, bt141.2))) hp ?_)
    simp only [show ¬ ((5 : Int) = 0) by decide, if_false]
    exact Ev.now _

end Go.Proofs.YtldohjlcckbfaaaDoor.Hand
