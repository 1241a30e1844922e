import Derived.Test.YtcjbnonjhahakaaDoorProg
import Derived.Below
import Derived.Deep.Draws
import Derived.Deep.AppendLies
import Derived.Maps.AppendAt
import Derived.OwnWalk
import Derived.Laws.BytesArg
import Derived.Laws.MakeOwn
import Derived.Laws.OwnMore
import Derived.Deep.OwnRows
import Derived.Tactics
import Derived.Lib.ConvBytes
import Derived.Laws.Slices
import Derived.WalkKit
import Derived.KernelRfl
import Derived.RowKit3
import Derived.Deep.LoopGhost
import Derived.Deep.QuietTactic
import Derived.BigQuiet
import Derived.WideLaws
import Derived.Deep.DeepCutAuto
import Derived.Deep.CutBlock
import Derived.Deep.RegionHeld3
import Derived.Laws.Rows
import Derived.Lib.AppendStr
import Derived.ArgAppend
import Derived.Laws.IdiomCopy
import Derived.OrdersHeld
import Derived.Laws.BitsLemmas
import Derived.RowKit
import Derived.Test.YtcjbnonjhahakaaDoorWWords
import Derived.Test.YtcjbnonjhahakaaDoorWLast
import Derived.Test.YtcjbnonjhahakaaDoorWTab
import Derived.Test.YtcjbnonjhahakaaDoorWFour
import Derived.Test.YtcjbnonjhahakaaDoorWQPut
import Derived.Test.YtcjbnonjhahakaaDoorWApart
import Derived.Test.YtcjbnonjhahakaaDoorWArr
import Derived.Test.YtcjbnonjhahakaaDoorWZeros
import Derived.Test.YtcjbnonjhahakaaDoorWFoot
import Derived.Test.YtcjbnonjhahakaaDoorWKept
import Derived.Test.YtcjbnonjhahakaaDoorWShare
import Derived.Test.YtcjbnonjhahakaaDoorWN
import Derived.Test.YtcjbnonjhahakaaDoorWFootNe
import Derived.Test.YtcjbnonjhahakaaDoorWAt
import Derived.Test.YtcjbnonjhahakaaDoorWEqStruct
import Derived.Test.YtcjbnonjhahakaaDoorWRepsOne
import Derived.Test.YtcjbnonjhahakaaDoorWInv
import Derived.Test.YtcjbnonjhahakaaDoorWInvWords
import Derived.Test.YtcjbnonjhahakaaDoorWGuard
import Derived.Test.YtcjbnonjhahakaaDoorWNEv
import Derived.Test.YtcjbnonjhahakaaDoorWMore
import Derived.Test.YtcjbnonjhahakaaDoorHandB
namespace Go.Proofs.YtcjbnonjhahakaaDoor.Hand
open Go.RowKit Go.Proofs.YtcjbnonjhahakaaDoorW.PrintWords Go.Proofs.YtcjbnonjhahakaaDoorW.PrintLast Go.Proofs.YtcjbnonjhahakaaDoorW.PrintMore
set_option linter.unusedVariables false
set_option linter.unusedSimpArgs false

/-! parts, made, Grows. -/
open Go.Maps Go.Proofs.YtcjbnonjhahakaaDoor.Math Go.Proofs.YtcjbnonjhahakaaDoor.Goes
def partsZ (pre : List UInt8) : List UInt8 → List UInt8 × List UInt8 × Bool
  | [] => ([], [], false)
  | c :: cs => if c = 50 then (pre, cs, !cs.isEmpty) else if isOp c = true then partsZ (pre ++ [c]) cs else ([], [], false)
theorem parts_op {c : UInt8} {cs : List UInt8} (h : isOp c = true) : parts (c :: cs) = (parts cs).map fun q => (c :: q.1, q.2) := by
  unfold parts
  rw [List.dropWhile_cons, if_pos h, List.takeWhile_cons, if_pos h]
  split
  · split <;> rfl
  · rfl
theorem partsZ_some (w : List UInt8) : ∀ (pre o x : List UInt8), parts w = some (o, x) → partsZ pre w = (pre ++ o, x, true) := by
  induction w with
  | nil => intro pre o x h; cases h
  | cons c cs ih =>
    intro pre o x h
    rw [partsZ]
    by_cases h0 : c = 50
    · subst h0
      unfold parts at h
      rw [List.dropWhile_cons, if_neg (by decide), List.takeWhile_cons, if_neg (by decide)] at h
      cases cs with
      | nil => cases h
      | cons y ys =>
        simp at h
        obtain ⟨rfl, rfl⟩ := h
        simp
    · rw [if_neg h0]
      by_cases h1 : isOp c = true
      · rw [if_pos h1]
        rw [parts_op h1] at h
        cases hp : parts cs with
        | none => rw [hp] at h; cases h
        | some q =>
          rw [hp] at h
          obtain ⟨o1, x1⟩ := q
          simp at h
          obtain ⟨rfl, rfl⟩ := h
          rw [ih _ _ _ hp]
          simp
      · unfold parts at h
        rw [List.dropWhile_cons, if_neg h1] at h
        cases cs with
        | nil => cases h
        | cons y ys => simp [h0] at h
theorem partsZ_none (w : List UInt8) : ∀ (pre : List UInt8), parts w = none → (partsZ pre w).2.2 = false := by
  induction w with
  | nil => intro pre h; rfl
  | cons c cs ih =>
    intro pre h
    rw [partsZ]
    by_cases h0 : c = 50
    · subst h0
      rw [if_pos rfl]
      unfold parts at h
      rw [List.dropWhile_cons, if_neg (by decide)] at h
      cases cs with
      | nil => rfl
      | cons y ys => simp at h
    · rw [if_neg h0]
      by_cases h1 : isOp c = true
      · rw [if_pos h1]
        rw [parts_op h1] at h
        cases hp : parts cs with
        | none => exact ih _ hp
        | some q => rw [hp] at h; cases h
      · rw [if_neg h1]
theorem dig_ascii {c : UInt8} (h : isDig c = true) : c.toNat < 128 := by
  unfold isDig at h
  have := (of_decide_eq_true h).2
  have := UInt8.le_iff_toNat_le.1 this
  simp at this; omega
set_option maxHeartbeats 2000000 in
set_option maxRecDepth 100000 in
theorem parts_main (a0 : ByteArray) (hd : (L a0).all isDig = true) (hs : a0.size ≤ 1000000) (w : World) (hO : Ops w) :
    Calls Tryd.prog 43 #[.string a0] w fun e w' => e = .returned (.tuple #[.string (B (partsZ [] (L a0)).1), .string (B (partsZ [] (L a0)).2.1), .bool (partsZ [] (L a0)).2.2]) ∧ Below w.heap.size w w' := by
  have mixed : Tryd.prog.follows Departure.mixedOrders = true := by kernel_rfl
  have hwi : ∀ n, IntKind.i64.wrap n = wrap64 n := i64_w
  have HR0 : Aside0 (partsZ ((L a0).take 0) ((L a0).drop 0) = partsZ [] (L a0)) := ⟨rfl⟩
  obtain ⟨t1, t2, t3, ht⟩ : ∃ t1 t2 t3, partsZ [] (L a0) = (t1, t2, t3) := ⟨_, _, _, rfl⟩
  rw [ht] at HR0 ⊢
  have HA : Aside0 (∀ (i : Nat) (hi : i < a0.size), isDig (a0[i]'hi) = true) := ⟨fun i hi => List.all_eq_true.1 hd _ (List.mem_of_getElem? (byte_at a0 i hi))⟩
  clear ht hd
  go_enter Tryd.func43, Tryd.ntmps43
  go_wp2
  go_loopg [5] a0.size (fun q v5 wr => ∃ (i : Nat), i + q = a0.size ∧ Aside0 (partsZ ((L a0).take i) ((L a0).drop i) = (t1, t2, t3)) ∧ wr.heap[w.heap.size]? = some (.stringIter a0 i) ∧ Aside0 (Below w.heap.size w wr))
  case atStart => exact ⟨0, by omega, HR0, World.iter_heap w a0 0, ⟨below_alloc (Below.refl _ _) _⟩⟩
  case round =>
    clear HR0
    obtain ⟨i, hiq, HR, hit, HBw⟩ := hrel
    by_cases hlt : i < a0.size
    · obtain ⟨q, rfl⟩ : ∃ q, gk = q + 1 := ⟨gk - 1, by omega⟩
      have hdg := HA.out i hlt
      have hnx := fun ty => Lib.run_next_ascii_at (P := Tryd.prog) wr w.heap.size a0 i ty hit hlt (dig_ascii hdg)
      have hdr := drop_at a0 i hlt
      rw [hdr] at HR
      have htk : (L a0).take (i + 1) = (L a0).take i ++ [a0[i]'hlt] := by rw [List.take_add_one, byte_at a0 i hlt]; rfl
      obtain ⟨c, hc⟩ : ∃ c, a0[i]'hlt = c := ⟨_, rfl⟩
      rw [hc] at HR hdg hnx htk
      have hit2 := Lib.iterAt_heap wr w.heap.size a0 i (i + 1) hit
      have HBw2 := Aside0.mk (Lib.below_iterAt HBw.out (k := w.heap.size) (Nat.le_refl _) a0 (i + 1))
      obtain ⟨W1, hW1⟩ : ∃ W1, wr.iterAt w.heap.size a0 (i + 1) = W1 := ⟨_, rfl⟩
      rw [hW1] at hnx hit2 HBw2
      have hr := HR.out
      rw [partsZ] at hr
      have hi1 : wrap64 ((i : Int) + 1) = ((i + 1 : Nat) : Int) := by unfold wrap64; omega
      have hle0 : (i : Int) ≤ (a0.size : Int) := by omega
      have hle1 : ((i + 1 : Nat) : Int) ≤ (a0.size : Int) := by omega
      by_cases c0 : c = 50
      · rw [if_pos c0] at hr
        have hc50 : ((c.toNat : Int) == 50) = true := beq_iff_eq.2 (by rw [c0]; rfl)
        have hr := (Prod.mk.injEq _ _ _ _).mp hr
        obtain ⟨hr1, hr2⟩ := hr
        have hr2 := (Prod.mk.injEq _ _ _ _).mp hr2
        obtain ⟨hr2, hr3⟩ := hr2
        have e1 : a0.extract 0 i = B t1 := B_of (by rw [L_extract, List.drop_zero, hr1])
        have e2 : a0.extract (i + 1) a0.size = B t2 := B_of (by rw [L_extract, List.take_of_length_le (by rw [L_length]; exact Nat.le_refl _), hr2])
        have e3 : decide ((i : Int) + 1 < (a0.size : Int)) = t3 := by
          rw [← hr3]
          have hlen : ((L a0).drop (i + 1)).length = a0.size - (i + 1) := by rw [List.length_drop, L_length]
          cases hcs : (L a0).drop (i + 1) with
          | nil => rw [hcs] at hlen; simp at hlen; simp; omega
          | cons y ys => rw [hcs] at hlen; simp at hlen; simp; omega
        clear hr1 hr2 hr3 HR hdr htk hc hW1 hit HBw c0
        go_wp2
        go_region
        go_wp2
        go_ret3
        exact ⟨rfl, below_drew HBw2.out⟩
      · rw [if_neg c0] at hr
        have hc50 : ((c.toNat : Int) == 50) = false := beq_eq_false_iff_ne.2 (fun e => c0 (UInt8.toNat_inj.1 (by simpa using Int.ofNat.inj e)))
        obtain ⟨bm, hG, hlk⟩ := (hO.below HBw2.out).look
        by_cases c1 : isOp c = true
        · rw [if_pos c1] at hr
          replace hlk := ((hlk W1 rfl).1 c c1).2
          have HR2 : Aside0 (partsZ ((L a0).take (i + 1)) ((L a0).drop (i + 1)) = (t1, t2, t3)) := ⟨by rw [htk]; exact hr⟩
          clear hr HR hdr htk hc hW1 hit HBw c0
          unfold opVal at hlk
          have hit3 := (Below.heap_alloc W1 (.cells #[.func (.func (fA c)) #[] #[], .func (.func (fL c)) #[] #[], .func (.func (fB c)) #[] #[]] 54) w.heap.size (Array.getElem?_eq_some_iff.1 hit2).1).trans hit2
          have HBw3 := Aside0.mk (below_alloc HBw2.out (.cells #[.func (.func (fA c)) #[] #[], .func (.func (fL c)) #[] #[], .func (.func (fB c)) #[] #[]] 54))
          go_wp2
          go_roundg q
          case measure => omega
          case rel => exact ⟨i + 1, by omega, HR2, hit3, HBw3⟩
        · rw [if_neg c1] at hr
          replace hlk := (hlk W1 rfl).2 c (by simpa using c1)
          have hr := (Prod.mk.injEq _ _ _ _).mp hr
          obtain ⟨hr1, hr2⟩ := hr
          have hr2 := (Prod.mk.injEq _ _ _ _).mp hr2
          obtain ⟨hr2, hr3⟩ := hr2
          subst hr1 hr2 hr3
          unfold zeroOp at hlk
          clear HR hdr htk hc hW1 hit HBw c0
          go_wp2
          go_ret3
          exact ⟨rfl, below_alloc HBw2.out _⟩
    · obtain rfl : gk = 0 := by omega
      obtain rfl : i = a0.size := by omega
      have hnx := fun ty => Lib.run_next_end_at (P := Tryd.prog) wr w.heap.size a0 a0.size ty hit (by omega)
      have hr := HR.out
      rw [List.drop_of_length_le (by rw [L_length]; exact Nat.le_refl _), partsZ] at hr
      have hr := (Prod.mk.injEq _ _ _ _).mp hr
      obtain ⟨hr1, hr2⟩ := hr
      have hr2 := (Prod.mk.injEq _ _ _ _).mp hr2
      obtain ⟨hr2, hr3⟩ := hr2
      subst hr1 hr2 hr3
      clear HR
      go_wp2
      go_ret3
      exact ⟨rfl, HBw.out⟩

theorem parts_all {w o x : List UInt8} (h : parts w = some (o, x)) : o.all isOp = true ∧ x ≠ [] ∧ o.length + x.length ≤ w.length := by
  obtain ⟨rfl, h1, h2⟩ := parts_some h
  exact ⟨h1, h2, by rw [List.length_append, List.length_cons]; omega⟩
def parrot_made.f (s : ByteArray) : Option (ByteArray × Int) := if (L s).all isDig = true ∧ s.size ≤ 100000 then some (B (says (L s)).1, (says (L s)).2) else none
set_option maxRecDepth 100000 in
theorem parrot_made.calls (a0 : ByteArray) (r1 : ByteArray) (r2 : Int) (w : World) (hO : Ops w) (h : parrot_made.f a0 = some (r1, r2)) :
    Calls Tryd.prog 41 #[.string a0] w fun e w' => e = .returned (.tuple #[.string r1, .int .i64 r2]) ∧ Below w.heap.size w w' := by
  unfold parrot_made.f at h
  by_cases hg : (L a0).all isDig = true ∧ a0.size ≤ 100000
  · rw [if_pos hg] at h
    simp only [Option.some.injEq, Prod.mk.injEq] at h
    obtain ⟨rfl, rfl⟩ := h
    have hpm := parts_main a0 hg.1 (by omega) w hO
    cases hp : parts (L a0) with
    | none =>
      have hsy : says (L a0) = ([], 10) := by unfold says; rw [hp]
      rw [hsy]
      have hf := partsZ_none (L a0) [] hp
      obtain ⟨t1, t2, t3, ht⟩ : ∃ t1 t2 t3, partsZ [] (L a0) = (t1, t2, t3) := ⟨_, _, _, rfl⟩
      rw [ht] at hpm hf
      have hf : t3 = false := hf
      subst hf
      show Calls Tryd.prog 41 #[.string a0] w fun e w' => e = .returned (.tuple #[.string ⟨#[]⟩, .int .i64 10]) ∧ Below w.heap.size w w'
      go_enter Tryd.func41, Tryd.ntmps41
      go_wp2_with (go_at_call 43; refine hpm.mono ?_; rintro e w1 ⟨rfl, hb1⟩)
      go_ret2
      exact ⟨rfl, hb1⟩
    | some q =>
      obtain ⟨o, x⟩ := q
      have hz := partsZ_some (L a0) [] o x hp
      rw [hz] at hpm
      obtain ⟨h1, h2, h3⟩ := parts_all hp
      have hl : (L a0).length = a0.size := rfl
      have hx : 0 < x.length := List.length_pos_iff.2 h2
      have hap : ∀ w, Ops w → _ := fun w hw => parrot_applied.calls (B o) (B x) (B (applL o.reverse x).1) (applL o.reverse x).2 w hw (by
        unfold parrot_applied.f aL
        rw [L_B, L_B, B_size, B_size, if_pos ⟨by omega, h1, by omega, by omega⟩, if_neg (by omega)])
      have hsy : says (L a0) = applL o.reverse x := by unfold says; rw [hp]
      rw [hsy]
      clear hz hsy hp
      simp only [List.nil_append] at hpm
      go_enter Tryd.func41, Tryd.ntmps41
      go_wp2_with (first | (go_at_call 43; refine hpm.mono ?_; rintro e w1 ⟨rfl, hb1⟩) | (go_at_call 47; refine (hap _ (hO.below hb1)).mono ?_; rintro e w2 ⟨rfl, hb2⟩))
      go_ret2
      exact ⟨rfl, hb1.trans (hb2.mono hb1.size)⟩
  · rw [if_neg hg] at h; cases h

/-! Grows. -/
theorem field_run (W : World) (a b c : Value) (hb : ∀ l, b ≠ .agg l) : (Instr.field 54 (.agg #[a, b, c]) 1).run Tryd.prog W = .ok b W := by
  have h51 := Tryd.isAgg51
  have hs := Tryd.sizeOf51
  simp [Instr.field, run_underlying Tryd.underlying54, asAgg, part, h51]
def parrot_Grows.f (s : ByteArray) : Option (Int × Int) := some (grows (L s))
set_option maxHeartbeats 2000000 in
set_option maxRecDepth 100000 in
theorem parrot_Grows.calls (a0 : ByteArray) (r1 r2 : Int) (w : World) (hO : Ops w) (h : parrot_Grows.f a0 = some (r1, r2)) :
    Calls Tryd.prog 19 #[.string a0] w fun e w' => e = .returned (.tuple #[.int .i64 r1, .int .i64 r2]) ∧ Below w.heap.size w w' := by
  unfold parrot_Grows.f at h
  have h := Option.some.inj h
  unfold grows at h
  have hwc := fun w => parrot_word.calls a0 (wordE (L a0)) w rfl
  by_cases c : wordE (L a0) = 0
  · rw [if_neg (show ¬ wordE (L a0) ≠ 0 by simpa using c)] at h
    rw [c] at hwc
    have hw := wordE_ok.1 c
    have hl : (L a0).length = a0.size := rfl
    have hpm := fun w hO => parts_main a0 hw.2.1 (by omega) w hO
    cases hp : parts (L a0) with
    | none =>
      rw [hp] at h
      obtain ⟨rfl, rfl⟩ := (Prod.mk.injEq _ _ _ _).mp h
      have hf := partsZ_none (L a0) [] hp
      obtain ⟨t1, t2, t3, ht⟩ : ∃ t1 t2 t3, partsZ [] (L a0) = (t1, t2, t3) := ⟨_, _, _, rfl⟩
      rw [ht] at hpm hf
      have hf : t3 = false := hf
      subst hf
      go_enter Tryd.func19, Tryd.ntmps19
      go_wp2_with (first | (go_at_call 40; refine (hwc _).mono ?_; rintro e w0 ⟨rfl, hb0⟩) | (go_at_call 43; refine (hpm _ (hO.below hb0)).mono ?_; rintro e w1 ⟨rfl, hb1⟩))
      go_ret2
      exact ⟨rfl, hb0.trans (hb1.mono hb0.size)⟩
    | some q =>
      obtain ⟨o, x⟩ := q
      rw [hp] at h
      have hz := partsZ_some (L a0) [] o x hp
      rw [hz] at hpm
      obtain ⟨h1, h2, h3⟩ := parts_all hp
      have hx : 0 < x.length := List.length_pos_iff.2 h2
      obtain ⟨rv, hrv⟩ : ∃ rv, B o.reverse = rv := ⟨_, rfl⟩
      have hrev := fun w => parrot_reversed.calls (B o) rv w (by unfold parrot_reversed.f; rw [B_size, if_pos (by omega), L_B, hrv])
      have hLr : L rv = o.reverse := by rw [← hrv, L_B]
      have hrs : rv.size ≤ 200 := by rw [← L_length, hLr, List.length_reverse]; omega
      have HA : Aside0 (∀ (i : Nat) (hi : i < rv.size), isOp (rv[i]'hi) = true) := ⟨fun i hi => by
        have h4 := byte_at rv i hi
        rw [hLr] at h4
        exact List.all_eq_true.1 h1 _ (List.mem_reverse.1 (List.mem_of_getElem? h4))⟩
      have HR : Aside0 (growL ((L rv).drop 0) x.length = (r1, r2)) := ⟨by rw [List.drop_zero, hLr]; exact h⟩
      simp only [List.nil_append] at hpm
      have hxl : x.length ≤ 200 := by omega
      have hBx : (B x).size = x.length := rfl
      clear h hp hz h1 h3 hLr hrv hw hl c
      go_enter Tryd.func19, Tryd.ntmps19
      go_wp2_with (first | (go_at_call 40; refine (hwc _).mono ?_; rintro e w0 ⟨rfl, hb0⟩) | (go_at_call 43; refine (hpm _ (hO.below hb0)).mono ?_; rintro e w1 ⟨rfl, hb1⟩; clear hpm) | (go_at_call 44; refine (hrev _).mono ?_; rintro e w2 ⟨rfl, hb2⟩; clear hrev))
      have HB := Aside0.mk (hb0.trans ((hb1.trans (hb2.mono hb1.size)).mono hb0.size))
      clear hb0 hb1 hb2 hwc
      go_loopg [8, 9] rv.size (fun q v8 v9 wr => ∃ (i n : Nat), v8 = .int .i64 n ∧ v9 = .bool false ∧ i + q = rv.size ∧ 1 ≤ n ∧ n ≤ 2305843009213695952 ∧ Aside0 (growL ((L rv).drop i) n = (r1, r2)) ∧ wr.heap[w2.heap.size]? = some (.stringIter rv i) ∧ Aside0 (Below w.heap.size w wr))
      case atStart => exact ⟨0, x.length, rfl, rfl, by omega, by omega, by omega, HR, World.iter_heap w2 rv 0, ⟨below_alloc HB.out _⟩⟩
      case round =>
        clear HR
        obtain ⟨i, n, rfl, rfl, hiq, hn1, hn2, HR, hit, HBw⟩ := hrel
        by_cases hlt : i < rv.size
        · obtain ⟨q, rfl⟩ : ∃ q, gk = q + 1 := ⟨gk - 1, by omega⟩
          have hop := HA.out i hlt
          have hnx := fun ty => Lib.run_next_ascii_at (P := Tryd.prog) wr w2.heap.size rv i ty hit hlt (op_ascii hop)
          have hd := drop_at rv i hlt
          rw [hd] at HR
          obtain ⟨c, hc⟩ : ∃ c, rv[i]'hlt = c := ⟨_, rfl⟩
          rw [hc] at HR hop hnx
          have hit2 := Lib.iterAt_heap wr w2.heap.size rv i (i + 1) hit
          have HBw2 := Aside0.mk (Lib.below_iterAt HBw.out (k := w2.heap.size) HB.out.size rv (i + 1))
          obtain ⟨W1, hW1⟩ : ∃ W1, wr.iterAt w2.heap.size rv (i + 1) = W1 := ⟨_, rfl⟩
          rw [hW1] at hnx hit2 HBw2
          have hr := HR.out
          rw [growL] at hr
          by_cases d0 : n > 1152921504606847176
          · rw [if_pos d0] at hr
            obtain ⟨rfl, rfl⟩ := (Prod.mk.injEq _ _ _ _).mp hr
            have d0' : decide ((1152921504606847176 : Int) < (n : Int)) = true := decide_eq_true (by omega)
            clear HR hd hc hW1 hit HBw
            go_wp2
            go_ret2
            exact ⟨rfl, HBw2.out⟩
          · rw [if_neg d0] at hr
            have d0' : decide ((1152921504606847176 : Int) < (n : Int)) = false := decide_eq_false (by omega)
            obtain ⟨bm, hG, hlk⟩ := (hO.below HBw2.out).look
            replace hlk := ((hlk W1 rfl).1 c hop).1
            have hfd := fun W a f c => field_run W a (.func (.func f) #[] #[]) c (fun l e => by cases e)
            obtain ⟨fl, hfl1, hfl2, hfl3⟩ := fL_run hop
            have hcl := fun w => callL hop n hn1 (by omega) w
            have hln : long1 c n ≤ 2 * n + 1 := by unfold long1; repeat' split
                                                   all_goals omega
            obtain ⟨m, hm⟩ : ∃ m, long1 c n = m := ⟨_, rfl⟩
            obtain ⟨nl, hnl⟩ : ∃ nl, fL c = nl := ⟨_, rfl⟩
            unfold opVal at hlk
            rw [hnl] at hlk hfl1 hcl
            rw [hm] at hcl hr hln
            clear HR hd hc hW1 hit HBw hnl hm
            by_cases d1 : m = 0
            · rw [if_pos d1] at hr
              subst d1
              obtain ⟨rfl, rfl⟩ := (Prod.mk.injEq _ _ _ _).mp hr
              go_wp2_with (first | ((with_reducible refine Goes.gate_slot rfl ?_); refine Goes.goesTL _ rfl rfl hfl1 hfl2 hfl3 #[.int .i64 (n : Int)] rfl (by (try simp only [List.map_toArray, List.map_cons, List.map_nil]); first | done | rfl) ?_; refine (hcl _).mono ?_; rintro e w' ⟨rfl, rfl⟩; refine ⟨_, rfl, ?_⟩))
              go_ret2
              exact ⟨rfl, HBw2.out⟩
            · rw [if_neg d1] at hr
              have d1' : ((m : Int) == 0) = false := beq_eq_false_iff_ne.2 (by omega)
              have HR2 := Aside0.mk hr
              go_wp2_with (first | ((with_reducible refine Goes.gate_slot rfl ?_); refine Goes.goesTL _ rfl rfl hfl1 hfl2 hfl3 #[.int .i64 (n : Int)] rfl (by (try simp only [List.map_toArray, List.map_cons, List.map_nil]); first | done | rfl) ?_; refine (hcl _).mono ?_; rintro e w' ⟨rfl, rfl⟩; refine ⟨_, rfl, ?_⟩))
              go_roundg q
              case measure => omega
              case rel => exact ⟨i + 1, m, rfl, rfl, by omega, by omega, by omega, HR2, hit2, HBw2⟩
        · obtain rfl : gk = 0 := by omega
          obtain rfl : i = rv.size := by omega
          have hnx := fun ty => Lib.run_next_end_at (P := Tryd.prog) wr w2.heap.size rv rv.size ty hit (by omega)
          have hr := HR.out
          rw [List.drop_of_length_le (by rw [L_length]; exact Nat.le_refl _), growL] at hr
          clear HR
          by_cases d0 : n > 1152921504606846976
          · rw [if_pos d0] at hr
            obtain ⟨rfl, rfl⟩ := (Prod.mk.injEq _ _ _ _).mp hr
            have d0' : decide ((1152921504606846976 : Int) < (n : Int)) = true := decide_eq_true (by omega)
            go_wp2
            go_ret2
            exact ⟨rfl, HBw.out⟩
          · rw [if_neg d0] at hr
            obtain ⟨rfl, rfl⟩ := (Prod.mk.injEq _ _ _ _).mp hr
            have d0' : decide ((1152921504606846976 : Int) < (n : Int)) = false := decide_eq_false (by omega)
            go_wp2
            go_ret2
            exact ⟨rfl, HBw.out⟩
  · rw [if_pos c] at h
    obtain ⟨rfl, rfl⟩ := (Prod.mk.injEq _ _ _ _).mp h
    obtain ⟨e1, he1⟩ : ∃ e1, wordE (L a0) = e1 := ⟨_, rfl⟩
    rw [he1] at hwc c ⊢
    have c' : (e1 != 0) = true := bne_iff_ne.2 c
    go_enter Tryd.func19, Tryd.ntmps19
    go_wp2_with (go_at_call 40; refine (hwc _).mono ?_; rintro e w0 ⟨rfl, hb0⟩)
    go_ret2
    exact ⟨rfl, hb0⟩

end Go.Proofs.YtcjbnonjhahakaaDoor.Hand
