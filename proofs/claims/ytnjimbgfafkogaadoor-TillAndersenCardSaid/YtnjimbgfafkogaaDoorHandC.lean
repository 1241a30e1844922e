import Derived.Test.YtnjimbgfafkogaaDoorProg
import Derived.Below
import Derived.Deep.Draws
import Derived.Deep.AppendLies
import Derived.Maps.AppendAt
import Derived.OwnWalk
import Derived.Laws.BytesArg
import Derived.Laws.MakeOwn
import Derived.Laws.OwnMore
import Derived.Deep.OwnRows
import Derived.Tactics
import Derived.Lib.ConvBytes
import Derived.Laws.Slices
import Derived.WalkKit
import Derived.KernelRfl
import Derived.RowKit3
import Derived.Deep.LoopGhost
import Derived.Deep.QuietTactic
import Derived.BigQuiet
import Derived.WideLaws
import Derived.Deep.DeepCutAuto
import Derived.Deep.CutBlock
import Derived.Deep.RegionHeld3
import Derived.Laws.Rows
import Derived.Lib.AppendStr
import Derived.ArgAppend
import Derived.Laws.IdiomCopy
import Derived.OrdersHeld
import Derived.Laws.BitsLemmas
import Derived.RowKit
import Derived.Test.YtnjimbgfafkogaaDoorWWords
import Derived.Test.YtnjimbgfafkogaaDoorWLast
import Derived.Test.YtnjimbgfafkogaaDoorWTab
import Derived.Test.YtnjimbgfafkogaaDoorWFour
import Derived.Test.YtnjimbgfafkogaaDoorWQPut
import Derived.Test.YtnjimbgfafkogaaDoorWApart
import Derived.Test.YtnjimbgfafkogaaDoorWArr
import Derived.Test.YtnjimbgfafkogaaDoorWZeros
import Derived.Test.YtnjimbgfafkogaaDoorWFoot
import Derived.Test.YtnjimbgfafkogaaDoorWKept
import Derived.Test.YtnjimbgfafkogaaDoorWShare
import Derived.Test.YtnjimbgfafkogaaDoorWN
import Derived.Test.YtnjimbgfafkogaaDoorWFootNe
import Derived.Test.YtnjimbgfafkogaaDoorWAt
import Derived.Test.YtnjimbgfafkogaaDoorWEqStruct
import Derived.Test.YtnjimbgfafkogaaDoorWRepsOne
import Derived.Test.YtnjimbgfafkogaaDoorWInv
import Derived.Test.YtnjimbgfafkogaaDoorWInvWords
import Derived.Test.YtnjimbgfafkogaaDoorWGuard
import Derived.Test.YtnjimbgfafkogaaDoorWNEv
import Derived.Test.YtnjimbgfafkogaaDoorWMore
import Derived.Test.YtnjimbgfafkogaaDoorHandB
namespace Go.Proofs.YtnjimbgfafkogaaDoor.Hand
open Go.RowKit Go.Proofs.YtnjimbgfafkogaaDoorW.PrintWords Go.Proofs.YtnjimbgfafkogaaDoorW.PrintLast Go.Proofs.YtnjimbgfafkogaaDoorW.PrintMore
set_option linter.unusedVariables false
set_option linter.unusedSimpArgs false

/-! Mirror -/
open Go.Proofs.YtnjimbgfafkogaaDoor.Pre

/-- From place i on, d bytes turned. -/
def mirr : List Int → Nat → Nat → List Int
  | m, _, 0 => m
  | m, i, d + 1 => mirr (m.set i (IntKind.u8.wrap (88 - m.getD i 0))) (i + 1) d

def till_Mirror.f (k : Nat) (s : ByteArray) (level : Int) : Option (ByteArray × Int) :=
  (till_walked.f s).bind fun e => if e = 0 then (till_path.f k s).bind fun b => (slices_Index_int_int.f k b level).bind fun p =>
    if p < 0 then some (⟨#[]⟩, 10) else if p ≤ s.size then some (strOfNums (mirr (bytesOf s) p.toNat (s.size - p.toNat)), 0) else none else some (⟨#[]⟩, e)
theorem till_Mirror.mono : ∀ a0 a1 k, LeO (till_Mirror.f k a0 a1) (till_Mirror.f (k + 1) a0 a1) := fun a0 a1 k =>
  LeO.bind (LeO.refl _) fun _ => LeO.ite (LeO.bind (till_path.mono _ _) fun _ => LeO.bind (slices_Index_int_int.mono _ _ _) fun _ => LeO.refl _) (LeO.refl _)

structure MRel (w wr : World) (g : Nat) (m : List Int) : Prop where
  blk : ∃ (C : Array Value) (lo hi : Nat), wr.heap[g]? = some (.cells C 5 (lo, hi)) ∧ m.length ≤ lo ∧ ∀ j, j < m.length → C[j]? = some (.int .u8 (m.getD j 0))
  bel : Below w.heap.size w wr
  far : w.heap.size ≤ g

theorem MRel.cell {w wr : World} {g : Nat} {m : List Int} (h : MRel w wr g m) (j : Nat) (hj : j < m.length) : wr.cell? ⟨g, j, none⟩ = some (.int .u8 (m.getD j 0)) := by
  obtain ⟨C, lo, hi, h1, h2, h3⟩ := h.blk
  simp only [World.cell?, h1]
  simpa using h3 j hj
theorem MRel.free {w wr : World} {g : Nat} {m : List Int} (h : MRel w wr g m) (j : Nat) (hj : j < m.length) : wr.frozen? ⟨g, j, none⟩ = false := by
  obtain ⟨C, lo, hi, h1, h2, h3⟩ := h.blk
  simp only [World.frozen?, h1]
  simp
  omega
theorem MRel.C {w wr : World} {g : Nat} {m : List Int} (h : MRel w wr g m) (hm : m.length ≤ 9223372036854775807) : Kd.C (Kd.int .u8) wr (some ⟨g, 0, none⟩) m.length m := by
  refine Kd.C_of_reads (enc := Value.int .u8) (d := 0) ⟨rfl, hm, fun hn => ⟨_, rfl, fun j hj => ?_⟩⟩
  have ha : (⟨g, 0, none⟩ : Addr).add j = ⟨g, j, none⟩ := by
    simp [Addr.add]
    exact fun h => h.symm
  rw [ha]
  exact h.cell j hj
theorem MRel.set {w wr : World} {g : Nat} {m : List Int} (h : MRel w wr g m) (j : Nat) (hj : j < m.length) (x : Int) : MRel w (wr.setCell ⟨g, j, none⟩ (.int .u8 x)) g (m.set j x) := by
  obtain ⟨⟨C, lo, hi, h1, h2, h3⟩, hb, hf⟩ := h
  refine ⟨⟨C.setIfInBounds j (.int .u8 x), lo, hi, ?_, by rw [List.length_set]; exact h2, fun i hi2 => ?_⟩, hb.setCell hf _, hf⟩
  · unfold World.setCell
    simp only [Array.getElem?_modify, h1]
    simp
  · rw [List.length_set] at hi2
    rw [Array.getElem?_setIfInBounds, List.getD_eq_getElem?_getD, List.getElem?_set]
    have hlt : i < C.size := by
      have := h3 i hi2
      exact (Array.getElem?_eq_some_iff.1 this).1
    by_cases e : j = i
    · subst e
      simp [hlt, hi2]
    · rw [if_neg e, if_neg e, h3 i hi2, List.getD_eq_getElem?_getD]

theorem MRel.start {w w1 : World} (s : ByteArray) (cap : Nat) (hb : Below w.heap.size w w1) :
    MRel w (w1.alloc (.cells (bytesRow s cap) 5 ((bytesRow s cap).size, (bytesRow s cap).size + 1))) w1.heap.size (bytesOf s) := by
  refine ⟨⟨bytesRow s cap, (bytesRow s cap).size, (bytesRow s cap).size + 1, ?_, ?_, fun j hj => ?_⟩, below_alloc hb _, hb.size⟩
  · show (w1.heap.push _)[w1.heap.size]? = _
    simp
  · have h1 : s.data.size = s.size := rfl
    rw [bytesOf_length]
    simp [bytesRow]
  · rw [bytesOf_length] at hj
    exact bytesRow_cell s cap j hj

theorem mirr_length (d : Nat) : ∀ (m : List Int) (i : Nat), (mirr m i d).length = m.length := by
  induction d with
  | zero => intro m i; rfl
  | succ d ih => intro m i; rw [mirr, ih, List.length_set]

set_option maxHeartbeats 2000000 in
theorem till_Mirror.calls (k : Nat) (a0 : ByteArray) (a1 : Int) (r1 : ByteArray) (r2 : Int) (w : World) (h : till_Mirror.f k a0 a1 = some (r1, r2)) :
    Calls Tryd.prog 26 #[.string a0, .int .i64 a1] w fun e w' => e = .returned (.tuple #[.string r1, .int .i64 r2]) ∧ Below w.heap.size w w' := by
  have H := h
  unfold till_Mirror.f at H
  obtain ⟨e1, h1, H⟩ := Option.bind_eq_some_iff.1 H
  have H1 := Aside0.mk h1
  have HH := Aside0.mk H
  clear h h1 H
  have hcv := fun w => run_bytes_of_string (P := Tryd.prog) w 9 62 5 a0 Tryd.underlying9 Tryd.underlying62 Tryd.underlying5
  go_enter Tryd.func26, Tryd.ntmps26
  by_cases c : e1 = 0
  · subst c
    have H := HH.out
    rw [if_pos rfl] at H
    obtain ⟨b, hb, H⟩ := Option.bind_eq_some_iff.1 H
    obtain ⟨p, hp, H⟩ := Option.bind_eq_some_iff.1 H
    have HP := Aside0.mk hb
    have HI := Aside0.mk hp
    have hsz : a0.size ≤ 60 := by
      have h1 := H1.out
      unfold till_walked.f at h1
      split at h1
      · cases h1
      · omega
    clear hb hp HH
    by_cases c1 : p < 0
    · rw [if_pos c1] at H
      have c1' : decide (p < 0) = true := decide_eq_true c1
      simp only [Option.some.injEq, Prod.mk.injEq] at H
      obtain ⟨rfl, rfl⟩ := H
      clear c1
      go_wp2_with (first | (go_at_call 54; refine (till_walked.calls a0 0 _ H1.out).mono ?_; rintro e w1 ⟨rfl, hb1⟩) | (go_at_call 56; refine (till_path.calls k a0 b _ HP.out).mono ?_; rintro e w2 ⟨v2, rfl, ho2, hb2⟩; obtain ⟨A2, c2, rfl⟩ := Kd.R_slice ho2) | (go_at_call 55; refine (slices_Index_int_int.calls k A2 c2 b a1 p _ (Kd.R_reads' ho2).2.2 (Kd.R_reads' ho2).2.1 HI.out).mono ?_; rintro e w3 ⟨rfl, ⟨nd, rfl⟩⟩))
      go_ret2
      exact ⟨rfl, pw_below_drewN (hb1.trans (hb2.mono hb1.size)) _⟩
    · rw [if_neg c1] at H
      by_cases c2 : p ≤ a0.size
      · rw [if_pos c2] at H
        have c1' : decide (p < 0) = false := decide_eq_false c1
        obtain ⟨i0, rfl⟩ : ∃ i0 : Nat, p = (i0 : Int) := ⟨p.toNat, by omega⟩
        rw [Int.toNat_natCast] at H
        simp only [Option.some.injEq, Prod.mk.injEq] at H
        obtain ⟨hr, rfl⟩ := H
        have HR := Aside0.mk hr
        have hi0 : i0 ≤ a0.size := by omega
        clear c1 c2 hr
        go_wp2_with (first | (go_at_call 54; refine (till_walked.calls a0 0 _ H1.out).mono ?_; rintro e w1 ⟨rfl, hb1⟩) | (go_at_call 56; refine (till_path.calls k a0 b _ HP.out).mono ?_; rintro e w2 ⟨v2, rfl, ho2, hb2⟩; obtain ⟨A2, c2, rfl⟩ := Kd.R_slice ho2) | (go_at_call 55; refine (slices_Index_int_int.calls k A2 c2 b a1 i0 _ (Kd.R_reads' ho2).2.2 (Kd.R_reads' ho2).2.1 HI.out).mono ?_; rintro e w3 ⟨rfl, ⟨nd, rfl⟩⟩))
        have HM := Aside0.mk (MRel.start (w := w) (w1 := w2.drewN (nd + 1)) a0 (grownCap (w2.drewN nd) a0.size 0 5) (pw_below_drewN (hb1.trans (hb2.mono hb1.size)) (nd + 1)))
        obtain ⟨cap, hcap⟩ : ∃ cap, grownCap (w2.drewN nd) a0.size 0 5 = cap := ⟨_, rfl⟩
        rw [hcap] at HM ⊢
        clear hcap hcv
        go_loopg [9] (a0.size - i0) (fun q v9 wr => ∃ (i : Nat) (m : List Int), v9 = .int .i64 i ∧ i + q = a0.size ∧ m.length = a0.size ∧ Aside0 (strOfNums (mirr m i q) = r1) ∧ Aside0 (MRel w wr w2.heap.size m))
        case atStart => exact ⟨i0, bytesOf a0, rfl, by omega, bytesOf_length _, HR, HM⟩
        case round =>
          clear HM HR
          obtain ⟨i, m, rfl, hiq, hml, HR, HM⟩ := hrel
          by_cases hlt : i < a0.size
          · obtain ⟨q, rfl⟩ : ∃ q, gk = q + 1 := ⟨gk - 1, by omega⟩
            have hd : decide ((i : Int) < (a0.size : Int)) = true := decide_eq_true (by omega)
            have hc1 := HM.out.cell i (by omega)
            have hf1 := HM.out.free i (by omega)
            have HM2 := Aside0.mk (HM.out.set i (by omega) (IntKind.u8.wrap (88 - m.getD i 0)))
            have hr := HR.out
            rw [mirr] at hr
            have HR2 := Aside0.mk hr
            obtain ⟨v, hv⟩ : ∃ v, m.getD i 0 = v := ⟨_, rfl⟩
            rw [hv] at hc1 HM2 HR2
            have HL : Aside0 ((m.set i (IntKind.u8.wrap (88 - v))).length = a0.size) := ⟨by rw [List.length_set]; exact hml⟩
            have HI2 := Aside0.mk (show wrap64 ((i : Int) + 1) = ((i + 1 : Nat) : Int) by unfold wrap64; omega)
            clear hv hr HR HM hml
            go_wp2
            go_roundg q
            case measure => omega
            case rel => exact ⟨i + 1, m.set i (IntKind.u8.wrap (88 - v)), by rw [Int.natCast_succ], by omega, HL.out, HR2, HM2⟩
          · obtain rfl : gk = 0 := by omega
            obtain rfl : i = a0.size := by omega
            have hd : decide ((a0.size : Int) < (a0.size : Int)) = false := decide_eq_false (by omega)
            have hr := HR.out
            rw [mirr] at hr
            have hC : Kd.C (Kd.int .u8) wr (some ⟨w2.heap.size, 0, none⟩) a0.size m := by
              have := HM.out.C (by omega)
              rwa [hml] at this
            have hcb := Kd.C_string (P := Tryd.prog) (c := cap) Tryd.underlying62 Tryd.underlying5 Tryd.underlying9 hC
            rw [hr] at hcb
            have hbe := Aside0.mk HM.out.bel
            clear hC hr HR HM
            go_wp2
            go_ret2
            exact ⟨rfl, hbe.out⟩
      · rw [if_neg c2] at H
        cases H
  · have H := HH.out
    rw [if_neg c] at H
    simp only [Option.some.injEq, Prod.mk.injEq] at H
    obtain ⟨rfl, rfl⟩ := H
    have c' : (e1 != 0) = true := bne_iff_ne.2 c
    go_wp2_with (go_at_call 54; refine (till_walked.calls a0 e1 _ H1.out).mono ?_; rintro e w1 ⟨rfl, hb1⟩)
    go_ret2
    exact ⟨rfl, hb1⟩

end Go.Proofs.YtnjimbgfafkogaaDoor.Hand
