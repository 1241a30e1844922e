import Derived.Test.YtnjimbgfafkogaaDoorProg
import Derived.Below
import Derived.Deep.Draws
import Derived.Deep.AppendLies
import Derived.Maps.AppendAt
import Derived.OwnWalk
import Derived.Laws.BytesArg
import Derived.Laws.MakeOwn
import Derived.Laws.OwnMore
import Derived.Deep.OwnRows
import Derived.Tactics
import Derived.Lib.ConvBytes
import Derived.Laws.Slices
import Derived.WalkKit
import Derived.KernelRfl
import Derived.RowKit3
import Derived.Deep.LoopGhost
import Derived.Deep.QuietTactic
import Derived.BigQuiet
import Derived.WideLaws
import Derived.Deep.DeepCutAuto
import Derived.Deep.CutBlock
import Derived.Deep.RegionHeld3
import Derived.Laws.Rows
import Derived.Lib.AppendStr
import Derived.ArgAppend
import Derived.Laws.IdiomCopy
import Derived.OrdersHeld
import Derived.Laws.BitsLemmas
import Derived.RowKit
import Derived.Test.YtnjimbgfafkogaaDoorWWords
import Derived.Test.YtnjimbgfafkogaaDoorWLast
import Derived.Test.YtnjimbgfafkogaaDoorWTab
import Derived.Test.YtnjimbgfafkogaaDoorWFour
import Derived.Test.YtnjimbgfafkogaaDoorWQPut
import Derived.Test.YtnjimbgfafkogaaDoorWApart
import Derived.Test.YtnjimbgfafkogaaDoorWArr
import Derived.Test.YtnjimbgfafkogaaDoorWZeros
import Derived.Test.YtnjimbgfafkogaaDoorWFoot
import Derived.Test.YtnjimbgfafkogaaDoorWKept
import Derived.Test.YtnjimbgfafkogaaDoorWShare
import Derived.Test.YtnjimbgfafkogaaDoorWN
import Derived.Test.YtnjimbgfafkogaaDoorWFootNe
import Derived.Test.YtnjimbgfafkogaaDoorWAt
import Derived.Test.YtnjimbgfafkogaaDoorWEqStruct
import Derived.Test.YtnjimbgfafkogaaDoorWRepsOne
import Derived.Test.YtnjimbgfafkogaaDoorWInv
import Derived.Test.YtnjimbgfafkogaaDoorWInvWords
import Derived.Test.YtnjimbgfafkogaaDoorWGuard
import Derived.Test.YtnjimbgfafkogaaDoorWNEv
import Derived.Test.YtnjimbgfafkogaaDoorWMore
import Derived.Test.YtnjimbgfafkogaaDoorHandA
import Derived.Test.YtnjimbgfafkogaaDoorPre1
import Derived.Laws.IdiomStrings
import Derived.Laws.AppendOwn
namespace Go.Proofs.YtnjimbgfafkogaaDoor.Hand
open Go.RowKit Go.Proofs.YtnjimbgfafkogaaDoorW.PrintWords Go.Proofs.YtnjimbgfafkogaaDoorW.PrintLast Go.Proofs.YtnjimbgfafkogaaDoorW.PrintMore
set_option linter.unusedVariables false
set_option linter.unusedSimpArgs false

/-! path -/
def till_path.f (k : Nat) (s : ByteArray) : Option (List Int) := if s.size ≤ 9223372036854775807 then Go.Proofs.YtnjimbgfafkogaaDoor.Pre.till_sums_byte.f k (bytesOf s) else none
theorem till_path.mono : ∀ a0 k, LeO (till_path.f k a0) (till_path.f (k + 1) a0) := fun a0 k => LeO.ite (Go.Proofs.YtnjimbgfafkogaaDoor.Pre.till_sums_byte.mono _ _) (LeO.refl _)

theorem bytesRow_cell (s : ByteArray) (cap j : Nat) (h : j < s.size) : (bytesRow s cap)[j]? = some (.int .u8 ((bytesOf s).getD j 0)) := by
  unfold bytesRow bytesOf
  have h1 : j < s.data.size := h
  rw [Array.getElem?_append_left (by simpa using h1), List.getD_eq_getElem?_getD, List.getElem?_map, Array.getElem?_map, Array.getElem?_toList, Array.getElem?_eq_getElem h1]
  rfl

theorem bytes_C (w : World) (s : ByteArray) (cap : Nat) (f : Nat × Nat) (hs : s.size ≤ 9223372036854775807) :
    Kd.C (Kd.int .u8) (w.alloc (.cells (bytesRow s cap) 5 f)).drew (some ⟨w.heap.size, 0, none⟩) (bytesOf s).length (bytesOf s) := by
  refine Kd.C_drew (Kd.C_of_reads (enc := Value.int .u8) (d := 0) ⟨rfl, by rw [bytesOf_length]; exact hs, fun hn => ⟨_, rfl, fun j hj => ?_⟩⟩)
  rw [bytesOf_length] at hj
  have h := bytesRow_cell s cap j hj
  have hx : (w.alloc (.cells (bytesRow s cap) 5 f)).heap[w.heap.size]? = some (.cells (bytesRow s cap) 5 f) := by
    show (w.heap.push _)[w.heap.size]? = _
    simp
  have ha : (⟨w.heap.size, 0, none⟩ : Addr).add j = ⟨w.heap.size, j, none⟩ := by
    simp [Addr.add]
    exact fun h => h.symm
  rw [ha]
  simp only [World.cell?, hx]
  simpa using h

theorem till_path.calls (k : Nat) (a0 : ByteArray) (r : List Int) (w : World) (h : till_path.f k a0 = some r) :
    Calls Tryd.prog 56 #[.string a0] w fun e w' => ∃ v0_ : Value, e = .returned (v0_) ∧ Kd.R (Kd.int .i64) 3 w' w.heap.size (fun _ => True) v0_ r ∧ Below w.heap.size w w' := by
  have hcv := fun w => run_bytes_of_string (P := Tryd.prog) w 9 62 5 a0 Tryd.underlying9 Tryd.underlying62 Tryd.underlying5
  have hsz : a0.size ≤ 9223372036854775807 := by
    unfold till_path.f at h
    split at h
    · assumption
    · cases h
  replace h : Go.Proofs.YtnjimbgfafkogaaDoor.Pre.till_sums_byte.f k (bytesOf a0) = some r := by
    unfold till_path.f at h
    rwa [if_pos hsz] at h
  have hca : ∀ w1 : World, a0.size ≤ grownCap w1 a0.size 0 5 := fun w1 => grownCap_ge _ _ _ _
  have hcall := fun (cap : Nat) (f : Nat × Nat) (hc : (bytesOf a0).length ≤ cap) => Go.Proofs.YtnjimbgfafkogaaDoor.Pre.till_sums_byte.calls k (some ⟨w.heap.size, 0, none⟩) cap (bytesOf a0) r _ (bytes_C w a0 cap f hsz) hc h
  rw [bytesOf_length] at hcall
  have hB : ∀ o, Below w.heap.size w (w.alloc o).drew := fun o => ((Below.refl _ w).alloc (Nat.le_refl _) o).drew
  go_enter Tryd.func56, Tryd.ntmps56
  go_wp2_with (go_at_call 76; refine (hcall _ _ (hca _)).mono ?_; rintro e w2 ⟨v0, rfl, ho, hb⟩)
  go_ret
  exact ⟨_, rfl, Kd.R_lower ho (hB _).size, (hB _).trans (hb.mono (hB _).size)⟩

end Go.Proofs.YtnjimbgfafkogaaDoor.Hand
