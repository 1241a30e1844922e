/- till.walked and till.path, by hand: what strings.Trim leaves of a walk, and its balances. -/
import Derived.Test.YtldohjlcckbfaaaGreatDoorProg
import Derived.Below
import Derived.Deep.Draws
import Derived.Deep.AppendLies
import Derived.Maps.AppendAt
import Derived.OwnWalk
import Derived.Laws.BytesArg
import Derived.Laws.MakeOwn
import Derived.Laws.OwnMore
import Derived.Deep.OwnRows
import Derived.Tactics
import Derived.Lib.ConvBytes
import Derived.Laws.Slices
import Derived.WalkKit
import Derived.KernelRfl
import Derived.RowKit3
import Derived.Deep.LoopGhost
import Derived.Deep.QuietTactic
import Derived.BigQuiet
import Derived.WideLaws
import Derived.Deep.DeepCutAuto
import Derived.Deep.CutBlock
import Derived.Deep.RegionHeld3
import Derived.Laws.Rows
import Derived.Lib.AppendStr
import Derived.ArgAppend
import Derived.Laws.IdiomCopy
import Derived.OrdersHeld
import Derived.Laws.BitsLemmas
import Derived.RowKit
import Derived.Test.YtldohjlcckbfaaaGreatDoorWWords
import Derived.Test.YtldohjlcckbfaaaGreatDoorWLast
import Derived.Test.YtldohjlcckbfaaaGreatDoorWTab
import Derived.Test.YtldohjlcckbfaaaGreatDoorWFour
import Derived.Test.YtldohjlcckbfaaaGreatDoorWQPut
import Derived.Test.YtldohjlcckbfaaaGreatDoorWApart
import Derived.Test.YtldohjlcckbfaaaGreatDoorWArr
import Derived.Test.YtldohjlcckbfaaaGreatDoorWZeros
import Derived.Test.YtldohjlcckbfaaaGreatDoorWFoot
import Derived.Test.YtldohjlcckbfaaaGreatDoorWKept
import Derived.Test.YtldohjlcckbfaaaGreatDoorWShare
import Derived.Test.YtldohjlcckbfaaaGreatDoorWN
import Derived.Test.YtldohjlcckbfaaaGreatDoorWFootNe
import Derived.Test.YtldohjlcckbfaaaGreatDoorWAt
import Derived.Test.YtldohjlcckbfaaaGreatDoorWEqStruct
import Derived.Test.YtldohjlcckbfaaaGreatDoorWRepsOne
import Derived.Test.YtldohjlcckbfaaaGreatDoorWInv
import Derived.Test.YtldohjlcckbfaaaGreatDoorWInvWords
import Derived.Test.YtldohjlcckbfaaaGreatDoorWGuard
import Derived.Test.YtldohjlcckbfaaaGreatDoorWNEv
import Derived.Test.YtldohjlcckbfaaaGreatDoorWMore
import Derived.Test.YtldohjlcckbfaaaGreatDoorShelf
import Derived.Shelf.Strings.SlTrimAscii
import Derived.Laws.IdiomStrings
import Derived.Test.YtldohjlcckbfaaaGreatDoorPre1
import Derived.Laws.AppendOwn
namespace Go.Proofs.YtldohjlcckbfaaaGreatDoor.Hand
open Go.RowKit Go.Proofs.YtldohjlcckbfaaaGreatDoorW.PrintWords Go.Proofs.YtldohjlcckbfaaaGreatDoorW.PrintLast Go.Proofs.YtldohjlcckbfaaaGreatDoorW.PrintMore
set_option linter.unusedVariables false
set_option linter.unusedSimpArgs false

/-! walked -/
theorem dropW_nil {α : Type} {p : α → Bool} {l : List α} : l.dropWhile p = [] ↔ ∀ x ∈ l, p x = true := by
  induction l with
  | nil => simp
  | cons a l ih =>
    rw [List.dropWhile_cons]
    by_cases h : p a = true
    · rw [if_pos h, ih]; simp [h]
    · rw [if_neg h]; simp [h]
theorem trimS_nil (l cs : List UInt8) : Lib.trimS l cs = [] ↔ l.all (cs.contains ·) = true := by
  constructor
  · intro h
    unfold Lib.trimS Lib.trimLeftS at h
    rw [dropW_nil] at h
    have h2 : l.reverse.dropWhile (cs.contains ·) = [] := by
      cases hd : l.reverse.dropWhile (cs.contains ·) with
      | nil => rfl
      | cons x t =>
        have hx : ¬ cs.contains x = true := by
          have := List.head_dropWhile_not (cs.contains ·) (w := by rw [hd]; simp) (l := l.reverse)
          simp only [hd, List.head_cons] at this
          simpa using this
        exact absurd (h x (by unfold Lib.trimRightS; rw [hd]; simp)) hx
    rw [dropW_nil] at h2
    exact List.all_eq_true.2 fun x hx => h2 x (by simpa using hx)
  · intro h
    have hr : Lib.trimRightS l cs = [] := by
      unfold Lib.trimRightS
      rw [dropW_nil.2 (fun x hx => List.all_eq_true.1 h x (by simpa using hx))]
      rfl
    unfold Lib.trimS
    rw [hr]
    rfl

def signs (s : ByteArray) : Bool := s.data.toList.all ([43, 45].contains ·)
def till_walked.f (s : ByteArray) : Option Int := if (s.size : Int) > 60 then some 3 else if signs s = true then some 0 else some 5
theorem signs_trim (s : ByteArray) : (Lib.trimS s.data.toList [43, 45]).isEmpty = signs s := by
  have h := trimS_nil s.data.toList [43, 45]
  rw [Bool.eq_iff_iff, List.isEmpty_iff]
  exact h
theorem till_walked.calls (a0 : ByteArray) (r : Int) (w : World) (h : till_walked.f a0 = some r) :
    Calls Tryz.prog 79 #[.string a0] w fun e w' => e = .returned (.int .i64 r) ∧ Below w.heap.size w w' := by
  have H := h
  unfold till_walked.f at H
  have e2 := signs_trim a0
  go_enter Tryz.func79, Tryz.ntmps79
  by_cases c1 : (a0.size : Int) > 60
  · rw [if_pos c1] at H
    obtain rfl := Option.some.inj H
    have c1' : decide ((60 : Int) < (a0.size : Int)) = true := decide_eq_true c1
    go_wp2
    go_ret
    exact ⟨rfl, Below.refl _ _⟩
  · rw [if_neg c1] at H
    have c1' : decide ((60 : Int) < (a0.size : Int)) = false := decide_eq_false c1
    by_cases c2 : signs a0 = true
    · rw [if_pos c2] at H
      obtain rfl := Option.some.inj H
      rw [c2] at e2
      go_wp2_with (go_at_call 56; refine (Any.strings_Trim_laid Tryz.lays160 (by kernel_rfl) a0 ⟨#[43, 45]⟩ w (by omega) (by decide) (ascii_of_all (by decide))).mono ?_; rintro e w1 ⟨rfl, hb⟩)
      go_ret
      exact ⟨rfl, hb⟩
    · rw [if_neg c2] at H
      obtain rfl := Option.some.inj H
      rw [Bool.eq_false_iff.2 c2] at e2
      go_wp2_with (go_at_call 56; refine (Any.strings_Trim_laid Tryz.lays160 (by kernel_rfl) a0 ⟨#[43, 45]⟩ w (by omega) (by decide) (ascii_of_all (by decide))).mono ?_; rintro e w1 ⟨rfl, hb⟩)
      go_ret
      exact ⟨rfl, hb⟩
/-! path -/
def till_path.f (k : Nat) (s : ByteArray) : Option (List Int) := if s.size ≤ 9223372036854775807 then Go.Proofs.YtldohjlcckbfaaaGreatDoor.Pre.till_sums_byte.f k (bytesOf s) else none
theorem till_path.mono : ∀ a0 k, LeO (till_path.f k a0) (till_path.f (k + 1) a0) := fun a0 k => LeO.ite (Go.Proofs.YtldohjlcckbfaaaGreatDoor.Pre.till_sums_byte.mono _ _) (LeO.refl _)

theorem bytesRow_cell (s : ByteArray) (cap j : Nat) (h : j < s.size) : (bytesRow s cap)[j]? = some (.int .u8 ((bytesOf s).getD j 0)) := by
  unfold bytesRow bytesOf
  have h1 : j < s.data.size := h
  rw [Array.getElem?_append_left (by simpa using h1), List.getD_eq_getElem?_getD, List.getElem?_map, Array.getElem?_map, Array.getElem?_toList, Array.getElem?_eq_getElem h1]
  rfl

theorem bytes_C (w : World) (s : ByteArray) (cap : Nat) (f : Nat × Nat) (hs : s.size ≤ 9223372036854775807) :
    Kd.C (Kd.int .u8) (w.alloc (.cells (bytesRow s cap) 5 f)).drew (some ⟨w.heap.size, 0, none⟩) (bytesOf s).length (bytesOf s) := by
  refine Kd.C_drew (Kd.C_of_reads (enc := Value.int .u8) (d := 0) ⟨rfl, by rw [bytesOf_length]; exact hs, fun hn => ⟨_, rfl, fun j hj => ?_⟩⟩)
  rw [bytesOf_length] at hj
  have h := bytesRow_cell s cap j hj
  have hx : (w.alloc (.cells (bytesRow s cap) 5 f)).heap[w.heap.size]? = some (.cells (bytesRow s cap) 5 f) := by
    show (w.heap.push _)[w.heap.size]? = _
    simp
  have ha : (⟨w.heap.size, 0, none⟩ : Addr).add j = ⟨w.heap.size, j, none⟩ := by
    simp [Addr.add]
    exact fun h => h.symm
  rw [ha]
  simp only [World.cell?, hx]
  simpa using h

theorem till_path.calls (k : Nat) (a0 : ByteArray) (r : List Int) (w : World) (h : till_path.f k a0 = some r) :
    Calls Tryz.prog 44 #[.string a0] w fun e w' => ∃ v0_ : Value, e = .returned (v0_) ∧ Kd.R (Kd.int .i64) 3 w' w.heap.size (fun _ => True) v0_ r ∧ Below w.heap.size w w' := by
  have hcv := fun w => run_bytes_of_string (P := Tryz.prog) w 9 98 5 a0 Tryz.underlying9 Tryz.underlying98 Tryz.underlying5
  have hsz : a0.size ≤ 9223372036854775807 := by
    unfold till_path.f at h
    split at h
    · assumption
    · cases h
  replace h : Go.Proofs.YtldohjlcckbfaaaGreatDoor.Pre.till_sums_byte.f k (bytesOf a0) = some r := by
    unfold till_path.f at h
    rwa [if_pos hsz] at h
  have hca : ∀ w1 : World, a0.size ≤ grownCap w1 a0.size 0 5 := fun w1 => grownCap_ge _ _ _ _
  have hcall := fun (cap : Nat) (f : Nat × Nat) (hc : (bytesOf a0).length ≤ cap) => Go.Proofs.YtldohjlcckbfaaaGreatDoor.Pre.till_sums_byte.calls k (some ⟨w.heap.size, 0, none⟩) cap (bytesOf a0) r _ (bytes_C w a0 cap f hsz) hc h
  rw [bytesOf_length] at hcall
  have hB : ∀ o, Below w.heap.size w (w.alloc o).drew := fun o => ((Below.refl _ w).alloc (Nat.le_refl _) o).drew
  go_enter Tryz.func44, Tryz.ntmps44
  go_wp2_with (go_at_call 80; refine (hcall _ _ (hca _)).mono ?_; rintro e w2 ⟨v0, rfl, ho, hb⟩)
  go_ret
  exact ⟨_, rfl, Kd.R_lower ho (hB _).size, (hB _).trans (hb.mono (hB _).size)⟩

end Go.Proofs.YtldohjlcckbfaaaGreatDoor.Hand
