import Derived.Test.YtnjimbgfafkogaaDoorProg
import Derived.Below
import Derived.Deep.Draws
import Derived.Deep.AppendLies
import Derived.Maps.AppendAt
import Derived.OwnWalk
import Derived.Laws.BytesArg
import Derived.Laws.MakeOwn
import Derived.Laws.OwnMore
import Derived.Deep.OwnRows
import Derived.Tactics
import Derived.Lib.ConvBytes
import Derived.Laws.Slices
import Derived.WalkKit
import Derived.KernelRfl
import Derived.RowKit3
import Derived.Deep.LoopGhost
import Derived.Deep.QuietTactic
import Derived.BigQuiet
import Derived.WideLaws
import Derived.Deep.DeepCutAuto
import Derived.Deep.CutBlock
import Derived.Deep.RegionHeld3
import Derived.Laws.Rows
import Derived.Lib.AppendStr
import Derived.ArgAppend
import Derived.Laws.IdiomCopy
import Derived.OrdersHeld
import Derived.Laws.BitsLemmas
import Derived.RowKit
import Derived.Test.YtnjimbgfafkogaaDoorWWords
import Derived.Test.YtnjimbgfafkogaaDoorWLast
import Derived.Test.YtnjimbgfafkogaaDoorWTab
import Derived.Test.YtnjimbgfafkogaaDoorWFour
import Derived.Test.YtnjimbgfafkogaaDoorWQPut
import Derived.Test.YtnjimbgfafkogaaDoorWApart
import Derived.Test.YtnjimbgfafkogaaDoorWArr
import Derived.Test.YtnjimbgfafkogaaDoorWZeros
import Derived.Test.YtnjimbgfafkogaaDoorWFoot
import Derived.Test.YtnjimbgfafkogaaDoorWKept
import Derived.Test.YtnjimbgfafkogaaDoorWShare
import Derived.Test.YtnjimbgfafkogaaDoorWN
import Derived.Test.YtnjimbgfafkogaaDoorWFootNe
import Derived.Test.YtnjimbgfafkogaaDoorWAt
import Derived.Test.YtnjimbgfafkogaaDoorWEqStruct
import Derived.Test.YtnjimbgfafkogaaDoorWRepsOne
import Derived.Test.YtnjimbgfafkogaaDoorWInv
import Derived.Test.YtnjimbgfafkogaaDoorWInvWords
import Derived.Test.YtnjimbgfafkogaaDoorWGuard
import Derived.Test.YtnjimbgfafkogaaDoorWNEv
import Derived.Test.YtnjimbgfafkogaaDoorWMore
import Derived.Test.YtnjimbgfafkogaaDoorShelf
import Derived.Shelf.Strings.SlTrimAscii
import Derived.Laws.IdiomStrings
namespace Go.Proofs.YtnjimbgfafkogaaDoor.Hand
open Go.RowKit Go.Proofs.YtnjimbgfafkogaaDoorW.PrintWords Go.Proofs.YtnjimbgfafkogaaDoorW.PrintLast Go.Proofs.YtnjimbgfafkogaaDoorW.PrintMore
set_option linter.unusedVariables false
set_option linter.unusedSimpArgs false

/-! walked -/
theorem dropW_nil {α : Type} {p : α → Bool} {l : List α} : l.dropWhile p = [] ↔ ∀ x ∈ l, p x = true := by
  induction l with
  | nil => simp
  | cons a l ih =>
    rw [List.dropWhile_cons]
    by_cases h : p a = true
    · rw [if_pos h, ih]; simp [h]
    · rw [if_neg h]; simp [h]
theorem trimS_nil (l cs : List UInt8) : Lib.trimS l cs = [] ↔ l.all (cs.contains ·) = true := by
  constructor
  · intro h
    unfold Lib.trimS Lib.trimLeftS at h
    rw [dropW_nil] at h
    have h2 : l.reverse.dropWhile (cs.contains ·) = [] := by
      cases hd : l.reverse.dropWhile (cs.contains ·) with
      | nil => rfl
      | cons x t =>
        have hx : ¬ cs.contains x = true := by
          have := List.head_dropWhile_not (cs.contains ·) (w := by rw [hd]; simp) (l := l.reverse)
          simp only [hd, List.head_cons] at this
          simpa using this
        exact absurd (h x (by unfold Lib.trimRightS; rw [hd]; simp)) hx
    rw [dropW_nil] at h2
    exact List.all_eq_true.2 fun x hx => h2 x (by simpa using hx)
  · intro h
    have hr : Lib.trimRightS l cs = [] := by
      unfold Lib.trimRightS
      rw [dropW_nil.2 (fun x hx => List.all_eq_true.1 h x (by simpa using hx))]
      rfl
    unfold Lib.trimS
    rw [hr]
    rfl

def signs (s : ByteArray) : Bool := s.data.toList.all ([43, 45].contains ·)
def till_walked.f (s : ByteArray) : Option Int := if (s.size : Int) > 60 then some 3 else if signs s = true then some 0 else some 5
theorem signs_trim (s : ByteArray) : (Lib.trimS s.data.toList [43, 45]).isEmpty = signs s := by
  have h := trimS_nil s.data.toList [43, 45]
  rw [Bool.eq_iff_iff, List.isEmpty_iff]
  exact h
theorem till_walked.calls (a0 : ByteArray) (r : Int) (w : World) (h : till_walked.f a0 = some r) :
    Calls Tryd.prog 54 #[.string a0] w fun e w' => e = .returned (.int .i64 r) ∧ Below w.heap.size w w' := by
  have H := h
  unfold till_walked.f at H
  have e2 := signs_trim a0
  go_enter Tryd.func54, Tryd.ntmps54
  by_cases c1 : (a0.size : Int) > 60
  · rw [if_pos c1] at H
    obtain rfl := Option.some.inj H
    have c1' : decide ((60 : Int) < (a0.size : Int)) = true := decide_eq_true c1
    go_wp2
    go_ret
    exact ⟨rfl, Below.refl _ _⟩
  · rw [if_neg c1] at H
    have c1' : decide ((60 : Int) < (a0.size : Int)) = false := decide_eq_false c1
    by_cases c2 : signs a0 = true
    · rw [if_pos c2] at H
      obtain rfl := Option.some.inj H
      rw [c2] at e2
      go_wp2_with (go_at_call 75; refine (Any.strings_Trim_laid Tryd.lays160 (by kernel_rfl) a0 ⟨#[43, 45]⟩ w (by omega) (by decide) (ascii_of_all (by decide))).mono ?_; rintro e w1 ⟨rfl, hb⟩)
      go_ret
      exact ⟨rfl, hb⟩
    · rw [if_neg c2] at H
      obtain rfl := Option.some.inj H
      rw [Bool.eq_false_iff.2 c2] at e2
      go_wp2_with (go_at_call 75; refine (Any.strings_Trim_laid Tryd.lays160 (by kernel_rfl) a0 ⟨#[43, 45]⟩ w (by omega) (by decide) (ascii_of_all (by decide))).mono ?_; rintro e w1 ⟨rfl, hb⟩)
      go_ret
      exact ⟨rfl, hb⟩

end Go.Proofs.YtnjimbgfafkogaaDoor.Hand
