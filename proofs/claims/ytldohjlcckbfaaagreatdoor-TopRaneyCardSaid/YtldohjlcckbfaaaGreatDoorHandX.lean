/- What the closed example of layers 1 and 2 comes to, part 5: the first kernel. -/
import Derived.Test.YtldohjlcckbfaaaGreatDoorProg
import Derived.Below
import Derived.Deep.Draws
import Derived.Deep.AppendLies
import Derived.Maps.AppendAt
import Derived.OwnWalk
import Derived.Laws.BytesArg
import Derived.Laws.MakeOwn
import Derived.Laws.OwnMore
import Derived.Deep.OwnRows
import Derived.Tactics
import Derived.Lib.ConvBytes
import Derived.Laws.Slices
import Derived.WalkKit
import Derived.KernelRfl
import Derived.RowKit3
import Derived.Deep.LoopGhost
import Derived.Deep.QuietTactic
import Derived.BigQuiet
import Derived.WideLaws
import Derived.Deep.DeepCutAuto
import Derived.Deep.CutBlock
import Derived.Deep.RegionHeld3
import Derived.Laws.Rows
import Derived.Lib.AppendStr
import Derived.ArgAppend
import Derived.Laws.IdiomCopy
import Derived.OrdersHeld
import Derived.Laws.BitsLemmas
import Derived.RowKit
import Derived.Test.YtldohjlcckbfaaaGreatDoorWWords
import Derived.Test.YtldohjlcckbfaaaGreatDoorWLast
import Derived.Test.YtldohjlcckbfaaaGreatDoorWTab
import Derived.Test.YtldohjlcckbfaaaGreatDoorWFour
import Derived.Test.YtldohjlcckbfaaaGreatDoorWQPut
import Derived.Test.YtldohjlcckbfaaaGreatDoorWApart
import Derived.Test.YtldohjlcckbfaaaGreatDoorWArr
import Derived.Test.YtldohjlcckbfaaaGreatDoorWZeros
import Derived.Test.YtldohjlcckbfaaaGreatDoorWFoot
import Derived.Test.YtldohjlcckbfaaaGreatDoorWKept
import Derived.Test.YtldohjlcckbfaaaGreatDoorWShare
import Derived.Test.YtldohjlcckbfaaaGreatDoorWN
import Derived.Test.YtldohjlcckbfaaaGreatDoorWFootNe
import Derived.Test.YtldohjlcckbfaaaGreatDoorWAt
import Derived.Test.YtldohjlcckbfaaaGreatDoorWEqStruct
import Derived.Test.YtldohjlcckbfaaaGreatDoorWRepsOne
import Derived.Test.YtldohjlcckbfaaaGreatDoorWInv
import Derived.Test.YtldohjlcckbfaaaGreatDoorWInvWords
import Derived.Test.YtldohjlcckbfaaaGreatDoorWGuard
import Derived.Test.YtldohjlcckbfaaaGreatDoorWNEv
import Derived.Test.YtldohjlcckbfaaaGreatDoorWMore
import Derived.Test.YtldohjlcckbfaaaGreatDoorHandV
import Derived.Deep.RegionLaw
import Derived.BigRegion
namespace Go.Proofs.YtldohjlcckbfaaaGreatDoor.Hand
open Go.RowKit Go.Proofs.YtldohjlcckbfaaaGreatDoorW.PrintWords Go.Proofs.YtldohjlcckbfaaaGreatDoorW.PrintLast Go.Proofs.YtldohjlcckbfaaaGreatDoorW.PrintMore
set_option linter.unusedVariables false
set_option linter.unusedSimpArgs false

open Go.Proofs.YtldohjlcckbfaaaGreatDoor.Pre
theorem tests_at (S : Int) (w : World) : Tests S (w.heap.size + 1 + 1) (w.heap.size + 1) (w.heap.size + 1 + 1 + 1 + 1) (w.heap.size + 1 + 1 + 1 + 2) (w.heap.size + 1 + 1 + 1) (w.heap.size + 1 + 1 + 1 + 1 + 1 + 1)
    (((((((w.alloc (.cells townV 147)).alloc (.cells townV 147)).alloc (.cells #[.int .i64 S] 3)).alloc (.cells townV 147)).alloc (.cells #[.int .i64 S] 3)).alloc (.cells #[.int .i64 7] 3)).alloc
      (.cells #[.func (.func 177) #[] #[.pointer (some ⟨w.heap.size + 1 + 1, 0, none⟩), .pointer (some ⟨w.heap.size + 1, 0, none⟩)],
        .func (.func 178) #[] #[.pointer (some ⟨w.heap.size + 1 + 1 + 1 + 2, 0, none⟩), .pointer (some ⟨w.heap.size + 1 + 1 + 1 + 1, 0, none⟩), .pointer (some ⟨w.heap.size + 1 + 1 + 1, 0, none⟩)]] 90)).drew := by
  obtain ⟨n, hn⟩ : ∃ n, w.heap.size = n := ⟨_, rfl⟩
  have z1 : (w.alloc (.cells townV 147)).heap.size = n + 1 := by simp [hn]
  obtain ⟨w1, e1⟩ : ∃ w1, w.alloc (.cells townV 147) = w1 := ⟨_, rfl⟩
  rw [e1] at z1 ⊢
  rw [hn]
  have a1 := TownAt.new w1
  rw [z1] at a1
  have z2 : (w1.alloc (.cells townV 147)).heap.size = n + 1 + 1 := by simp [z1]
  obtain ⟨w2, e2⟩ : ∃ w2, w1.alloc (.cells townV 147) = w2 := ⟨_, rfl⟩
  rw [e2] at z2 a1 ⊢
  have s1 := cell_new w2 #[.int .i64 S] 3 0 (.int .i64 S) rfl
  have B2 := below_alloc (Below.refl _ w2) (.cells #[.int .i64 S] 3)
  rw [z2] at s1
  have z3 : (w2.alloc (.cells #[.int .i64 S] 3)).heap.size = n + 1 + 1 + 1 := by simp [z2]
  obtain ⟨w3, e3⟩ : ∃ w3, w2.alloc (.cells #[.int .i64 S] 3) = w3 := ⟨_, rfl⟩
  rw [e3] at z3 s1 B2 ⊢
  have a2 := TownAt.new w3
  have B3 := below_alloc (Below.refl _ w3) (.cells townV 147)
  rw [z3] at a2
  have z4 : (w3.alloc (.cells townV 147)).heap.size = n + 1 + 1 + 1 + 1 := by simp [z3]
  obtain ⟨w4, e4⟩ : ∃ w4, w3.alloc (.cells townV 147) = w4 := ⟨_, rfl⟩
  rw [e4] at z4 a2 B3 ⊢
  have s2 := cell_new w4 #[.int .i64 S] 3 0 (.int .i64 S) rfl
  have B4 := below_alloc (Below.refl _ w4) (.cells #[.int .i64 S] 3)
  rw [z4] at s2
  have z5 : (w4.alloc (.cells #[.int .i64 S] 3)).heap.size = n + 1 + 1 + 1 + 2 := by simp [z4]
  obtain ⟨w5, e5⟩ : ∃ w5, w4.alloc (.cells #[.int .i64 S] 3) = w5 := ⟨_, rfl⟩
  rw [e5] at z5 s2 B4 ⊢
  have q2 := cell_new w5 #[.int .i64 7] 3 0 (.int .i64 7) rfl
  have B5 := below_alloc (Below.refl _ w5) (.cells #[.int .i64 7] 3)
  rw [z5] at q2
  have z6 : (w5.alloc (.cells #[.int .i64 7] 3)).heap.size = n + 1 + 1 + 1 + 1 + 1 + 1 := by simp [z5]
  obtain ⟨w6, e6⟩ : ∃ w6, w5.alloc (.cells #[.int .i64 7] 3) = w6 := ⟨_, rfl⟩
  rw [e6] at z6 q2 B5 ⊢
  obtain ⟨xs, hxs⟩ : ∃ xs : Array Value, #[.func (.func 177) #[] #[.pointer (some ⟨n + 1 + 1, 0, none⟩), .pointer (some ⟨n + 1, 0, none⟩)],
        .func (.func 178) #[] #[.pointer (some ⟨n + 1 + 1 + 1 + 2, 0, none⟩), .pointer (some ⟨n + 1 + 1 + 1 + 1, 0, none⟩), .pointer (some ⟨n + 1 + 1 + 1, 0, none⟩)]] = xs := ⟨_, rfl⟩
  have f1 := cell_new w6 xs 90 0 (.func (.func 177) #[] #[.pointer (some ⟨n + 1 + 1, 0, none⟩), .pointer (some ⟨n + 1, 0, none⟩)]) (by rw [← hxs]; rfl)
  have f2 := cell_new w6 xs 90 1 (.func (.func 178) #[] #[.pointer (some ⟨n + 1 + 1 + 1 + 2, 0, none⟩), .pointer (some ⟨n + 1 + 1 + 1 + 1, 0, none⟩), .pointer (some ⟨n + 1 + 1 + 1, 0, none⟩)]) (by rw [← hxs]; rfl)
  rw [z6] at f1 f2
  rw [hxs]
  have B6 := below_alloc (Below.refl _ w6) (.cells xs 90)
  obtain ⟨w7, e7⟩ : ∃ w7, w6.alloc (.cells xs 90) = w7 := ⟨_, rfl⟩
  rw [e7] at f1 f2 B6 ⊢
  have B7 := below_drew1 (Below.refl w7.heap.size w7)
  have t6 := B6.trans (B7.mono B6.size)
  have t5 := B5.trans (t6.mono B5.size)
  have t4 := B4.trans (t5.mono B4.size)
  have t3 := B3.trans (t4.mono B3.size)
  have t2 := B2.trans (t3.mono B2.size)
  exact ⟨pw_cell_below t3 s1, a1.below t2, pw_cell_below t5 s2, pw_cell_below t6 q2, a2.below t4, pw_cell_below B7 f1, pw_cell_below B7 f2⟩
theorem ever_calls (w : World) : Calls Tryz.prog 90 #[.agg townV] w fun e w' => e = .returned (.int .i64 7) ∧ w' = w.alloc (.cells townV 147) := by
  go_enter Tryz.func90, Tryz.ntmps90
  go_wp2
  go_ret
  exact ⟨rfl, rfl⟩

end Go.Proofs.YtldohjlcckbfaaaGreatDoor.Hand
