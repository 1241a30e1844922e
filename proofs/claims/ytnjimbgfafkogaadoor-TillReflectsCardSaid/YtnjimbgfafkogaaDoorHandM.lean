import Derived.Test.YtnjimbgfafkogaaDoorProg
import Derived.Below
import Derived.Deep.Draws
import Derived.Deep.AppendLies
import Derived.Maps.AppendAt
import Derived.OwnWalk
import Derived.Laws.BytesArg
import Derived.Laws.MakeOwn
import Derived.Laws.OwnMore
import Derived.Deep.OwnRows
import Derived.Tactics
import Derived.Lib.ConvBytes
import Derived.Laws.Slices
import Derived.WalkKit
import Derived.KernelRfl
import Derived.RowKit3
import Derived.Deep.LoopGhost
import Derived.Deep.QuietTactic
import Derived.BigQuiet
import Derived.WideLaws
import Derived.Deep.DeepCutAuto
import Derived.Deep.CutBlock
import Derived.Deep.RegionHeld3
import Derived.Laws.Rows
import Derived.Lib.AppendStr
import Derived.ArgAppend
import Derived.Laws.IdiomCopy
import Derived.OrdersHeld
import Derived.Laws.BitsLemmas
import Derived.RowKit
import Derived.Test.YtnjimbgfafkogaaDoorWWords
import Derived.Test.YtnjimbgfafkogaaDoorWLast
import Derived.Test.YtnjimbgfafkogaaDoorWTab
import Derived.Test.YtnjimbgfafkogaaDoorWFour
import Derived.Test.YtnjimbgfafkogaaDoorWQPut
import Derived.Test.YtnjimbgfafkogaaDoorWApart
import Derived.Test.YtnjimbgfafkogaaDoorWArr
import Derived.Test.YtnjimbgfafkogaaDoorWZeros
import Derived.Test.YtnjimbgfafkogaaDoorWFoot
import Derived.Test.YtnjimbgfafkogaaDoorWKept
import Derived.Test.YtnjimbgfafkogaaDoorWShare
import Derived.Test.YtnjimbgfafkogaaDoorWN
import Derived.Test.YtnjimbgfafkogaaDoorWFootNe
import Derived.Test.YtnjimbgfafkogaaDoorWAt
import Derived.Test.YtnjimbgfafkogaaDoorWEqStruct
import Derived.Test.YtnjimbgfafkogaaDoorWRepsOne
import Derived.Test.YtnjimbgfafkogaaDoorWInv
import Derived.Test.YtnjimbgfafkogaaDoorWInvWords
import Derived.Test.YtnjimbgfafkogaaDoorWGuard
import Derived.Test.YtnjimbgfafkogaaDoorWNEv
import Derived.Test.YtnjimbgfafkogaaDoorWMore
import Derived.Test.YtnjimbgfafkogaaDoorPw1
import Derived.Test.YtnjimbgfafkogaaDoorMathD
import Derived.Maps.OwnSet
import Derived.Maps.OwnOps
import Derived.Maps.RangeWalk
import Derived.Laws.EntriesVeiled
namespace Go.Proofs.YtnjimbgfafkogaaDoor.Hand
open Go.RowKit Go.Proofs.YtnjimbgfafkogaaDoorW.PrintWords Go.Proofs.YtnjimbgfafkogaaDoorW.PrintLast Go.Proofs.YtnjimbgfafkogaaDoorW.PrintMore
set_option linter.unusedVariables false
set_option linter.unusedSimpArgs false

/-! Within, walked by hand: maps, filled in whatever order. -/
open Go.Maps Go.Proofs.YtnjimbgfafkogaaDoor.Math
def farW (x : Int) : Bool := decide (x < -60 ∨ x > 60)
theorem far_step (k : Nat) (l : List Int) (i : Nat) (hi : i < l.length) (hl : l.length ≤ 1000) : Pw.slices_IndexFunc_int_int.l0 (k + 1) l (l.length : Int) (i : Int) = if farW (l.getD i 0) = true then some (i : Int) else Pw.slices_IndexFunc_int_int.l0 k l (l.length : Int) ((i + 1 : Nat) : Int) := by
  have hw : wrap64 ((i : Int) + 1) = ((i + 1 : Nat) : Int) := by unfold wrap64; omega
  have hr : rd l (i : Int) = l.getD i 0 := by unfold rd; rw [Int.toNat_natCast]
  have h1 : Pw.till_Within_1.f (l.getD i 0) = some (farW (l.getD i 0)) := by
    unfold Pw.till_Within_1.f farW
    by_cases c : l.getD i 0 < -60
    · rw [if_pos c, decide_eq_true (.inl c)]
    · rw [if_neg c]
      by_cases c2 : l.getD i 0 > 60
      · rw [decide_eq_true c2, decide_eq_true (.inr c2)]
      · rw [decide_eq_false c2, decide_eq_false (fun h => h.elim c c2)]
  simp only [Pw.slices_IndexFunc_int_int.l0]
  rw [if_pos (by omega), if_pos (by omega), if_pos (by omega), hr, h1, Option.bind_some, hw]
theorem contains4 (a b c d : Int) : Pw.slices_ContainsFunc_int_int.f 6 [a, b, c, d] = some (farW a || farW b || farW c || farW d) := by
  unfold Pw.slices_ContainsFunc_int_int.f Pw.slices_IndexFunc_int_int.f
  have s0 := far_step 5 [a, b, c, d] 0 (by simp) (by simp)
  have s1 := far_step 4 [a, b, c, d] 1 (by simp) (by simp)
  have s2 := far_step 3 [a, b, c, d] 2 (by simp) (by simp)
  have s3 := far_step 2 [a, b, c, d] 3 (by simp) (by simp)
  have s4 : Pw.slices_IndexFunc_int_int.l0 2 [a, b, c, d] (([a, b, c, d] : List Int).length : Int) ((3 + 1 : Nat) : Int) = some (-1) := by
    simp only [Pw.slices_IndexFunc_int_int.l0]
    rw [if_neg (by simp)]
  rw [show (0 : Int) = ((0 : Nat) : Int) from rfl, s0, s1, s2, s3, s4]
  simp only [List.getD_cons_zero, List.getD_cons_succ]
  cases farW a <;> cases farW b <;> cases farW c <;> cases farW d <;> rfl
def fourW (w : World) (f t lo hi : Int) : World := ((w.alloc (.cells #[.int .i64 lo] 3)).alloc (.cells #[.int .i64 hi] 3)).alloc (.cells #[.int .i64 f, .int .i64 t, .int .i64 lo, .int .i64 hi] 3)
theorem four_blk (w : World) (f t lo hi : Int) : (fourW w f t lo hi).heap[w.heap.size]? = some (.cells #[.int .i64 lo] 3) ∧ (fourW w f t lo hi).heap[w.heap.size + 1]? = some (.cells #[.int .i64 hi] 3) ∧ (fourW w f t lo hi).heap[w.heap.size + 1 + 1]? = some (.cells #[.int .i64 f, .int .i64 t, .int .i64 lo, .int .i64 hi] 3) := by
  have e1 : (w.alloc (.cells #[.int .i64 lo] 3)).heap.size = w.heap.size + 1 := by simp
  have e2 : ((w.alloc (.cells #[.int .i64 lo] 3)).alloc (.cells #[.int .i64 hi] 3)).heap.size = w.heap.size + 1 + 1 := by simp
  refine ⟨?_, ?_, ?_⟩
  · unfold fourW
    rw [Below.heap_alloc _ _ _ (by omega), Below.heap_alloc _ _ _ (by omega)]
    show (w.heap.push _)[w.heap.size]? = _
    simp
  · unfold fourW
    rw [Below.heap_alloc _ _ _ (by omega)]
    have := heap_alloc_new (w.alloc (.cells #[.int .i64 lo] 3)) (.cells #[.int .i64 hi] 3)
    rwa [e1] at this
  · unfold fourW
    have := heap_alloc_new ((w.alloc (.cells #[.int .i64 lo] 3)).alloc (.cells #[.int .i64 hi] 3)) (.cells #[.int .i64 f, .int .i64 t, .int .i64 lo, .int .i64 hi] 3)
    rwa [e2] at this
theorem four_C (w : World) (f t lo hi : Int) : Kd.C (Kd.int .i64) (fourW w f t lo hi) (some ⟨w.heap.size + 1 + 1, 0, none⟩) 4 [f, t, lo, hi] := by
  refine Kd.C_of_reads (enc := Value.int .i64) (d := 0) ⟨rfl, by decide, fun hn => ⟨_, rfl, fun j hj => ?_⟩⟩
  have ha : (⟨w.heap.size + 1 + 1, 0, none⟩ : Addr).add j = ⟨w.heap.size + 1 + 1, j, none⟩ := by
    simp [Addr.add]
    exact fun h => h.symm
  rw [ha]
  simp only [World.cell?, (four_blk w f t lo hi).2.2]
  match j, hj with
  | 0, _ => rfl
  | 1, _ => rfl
  | 2, _ => rfl
  | 3, _ => rfl
theorem four_after (w : World) (f t lo hi : Int) (nd : Nat) : ((fourW w f t lo hi).drewN nd).cell? ⟨w.heap.size, 0, none⟩ = some (.int .i64 lo) ∧ ((fourW w f t lo hi).drewN nd).cell? ⟨w.heap.size + 1, 0, none⟩ = some (.int .i64 hi) ∧ Below w.heap.size w ((fourW w f t lo hi).drewN nd) ∧ w.heap.size + 1 < ((fourW w f t lo hi).drewN nd).heap.size := by
  have h := four_blk w f t lo hi
  refine ⟨?_, ?_, pw_below_drewN (below_alloc (below_alloc (below_alloc (Below.refl _ _) _) _) _) nd, ?_⟩
  · have : ((fourW w f t lo hi).drewN nd).heap[w.heap.size]? = some (.cells #[.int .i64 lo] 3) := h.1
    simp only [World.cell?, this]; rfl
  · have : ((fourW w f t lo hi).drewN nd).heap[w.heap.size + 1]? = some (.cells #[.int .i64 hi] 3) := h.2.1
    simp only [World.cell?, this]; rfl
  · have : ((fourW w f t lo hi).drewN nd).heap[w.heap.size + 1]? = some (.cells #[.int .i64 hi] 3) := h.2.1
    exact (Array.getElem?_eq_some_iff.1 this).1
/-! What the maps hold. -/
abbrev KI (b : Int) : Lit := .int .i64 b
abbrev VI (b : Int) : DataW Unit := .lit (.int .i64 b)
theorem key_ne {a b : Int} (h : a ≠ b) : KI a ≠ KI b := fun e => h (by injection e)
theorem same_self (a : Int) : (KI a).sameKey (KI a) = true := WideAt.sameKey_self (by trivial)
theorem same_ne {a b : Int} (h : a ≠ b) : (KI a).sameKey (KI b) = false := Maps.sameKey_ne (key_ne h)
structure WR (lo hi f : Int) (s : Nat) (D : DataW Unit) : Prop where
  at_ : ∀ b, D.atKey (KI b) (VI 0) = VI ((W lo hi f s b : Nat) : Int)
  has : ∀ b, Maps.has D (KI b) = true → lo ≤ b ∧ b ≤ hi
theorem WR.in_ {lo hi f : Int} (h1 : lo ≤ f) (h2 : f ≤ hi) : WR lo hi f 0 ((DataW.map []).put (KI f) (VI 1)) where
  at_ := fun b => by
    rw [W]
    by_cases e : b = f
    · subst e
      rw [Maps.atKey_put_same Maps.isMap_empty (by trivial), if_pos ⟨rfl, h1, h2⟩]; rfl
    · rw [Maps.atKey_put_other (key_ne e), if_neg (fun h => e h.1)]; rfl
  has := fun b hb => by
    by_cases e : b = f
    · subst e; exact ⟨h1, h2⟩
    · rw [Maps.has_put_other (key_ne e)] at hb; cases hb
theorem WR.out {lo hi f : Int} (h : ¬ (lo ≤ f ∧ f ≤ hi)) : WR lo hi f 0 (.map []) where
  at_ := fun b => by rw [W_from_out lo hi f h]; rfl
  has := fun b hb => by cases hb
section
variable (lo hi f : Int) (s : Nat) (D : DataW Unit)
def doneW (left : Lit → Bool) (b : Int) : Bool := Maps.has D (KI b) && !left (KI b)
def prt (left : Lit → Bool) (b : Int) : Nat := if doneW D left b = true then W lo hi f s b else 0
def nxv (left : Lit → Bool) (t : Int) : Nat := prt lo hi f s D left (t - 1) + prt lo hi f s D left (t + 1)
/-- What the next map holds in the middle of an entry: j of its two places done. -/
structure EM (left : Lit → Bool) (x : Int) (j : Nat) (E : DataW Unit) : Prop where
  at_ : ∀ t, E.atKey (KI t) (VI 0) = VI (((if lo ≤ t ∧ t ≤ hi then nxv lo hi f s D left t + (if 1 ≤ j ∧ t = x - 1 then W lo hi f s x else 0) + (if 2 ≤ j ∧ t = x + 1 then W lo hi f s x else 0) else 0 : Nat) : Nat) : Int)
  has : ∀ b, Maps.has E (KI b) = true → lo ≤ b ∧ b ≤ hi
variable {lo hi f s D}
theorem EM.start (x : Int) : EM lo hi f s D (Maps.has D) x 0 (.map []) where
  at_ := fun t => by
    have : nxv lo hi f s D (Maps.has D) t = 0 := by unfold nxv prt doneW; simp
    rw [this, if_neg (c := 1 ≤ 0 ∧ t = x - 1) (by omega), if_neg (c := 2 ≤ 0 ∧ t = x + 1) (by omega)]
    simp only [Nat.add_zero, ite_self]; rfl
  has := fun b hb => by cases hb
theorem EM.other {left : Lit → Bool} {x : Int} {E : DataW Unit} (h : EM lo hi f s D left x 0 E) (y : Int) : EM lo hi f s D left y 0 E where
  at_ := fun t => by
    rw [h.at_ t, if_neg (c := 1 ≤ 0 ∧ t = x - 1) (by omega), if_neg (c := 2 ≤ 0 ∧ t = x + 1) (by omega), if_neg (c := 1 ≤ 0 ∧ t = y - 1) (by omega), if_neg (c := 2 ≤ 0 ∧ t = y + 1) (by omega)]
  has := h.has
/-- A place outside: nothing is stored. -/
theorem EM.skip1 {left : Lit → Bool} {x : Int} {E : DataW Unit} (h : EM lo hi f s D left x 0 E) (ho : ¬ (lo ≤ x - 1 ∧ x - 1 ≤ hi)) : EM lo hi f s D left x 1 E where
  at_ := fun t => by
    rw [h.at_ t]
    by_cases c : lo ≤ t ∧ t ≤ hi
    · rw [if_pos c, if_pos c, if_neg (c := 1 ≤ 0 ∧ t = x - 1) (by omega), if_neg (c := 2 ≤ 0 ∧ t = x + 1) (by omega), if_neg (c := 1 ≤ 1 ∧ t = x - 1) (by rintro ⟨_, rfl⟩; exact ho c), if_neg (c := 2 ≤ 1 ∧ t = x + 1) (by omega)]
    · rw [if_neg c, if_neg c]
  has := h.has
theorem EM.skip2 {left : Lit → Bool} {x : Int} {E : DataW Unit} (h : EM lo hi f s D left x 1 E) (ho : ¬ (lo ≤ x + 1 ∧ x + 1 ≤ hi)) : EM lo hi f s D left x 2 E where
  at_ := fun t => by
    rw [h.at_ t]
    by_cases c : lo ≤ t ∧ t ≤ hi
    · rw [if_pos c, if_pos c, if_neg (c := 2 ≤ 1 ∧ t = x + 1) (by omega), if_neg (c := 2 ≤ 2 ∧ t = x + 1) (by rintro ⟨_, rfl⟩; exact ho c)]
      by_cases e : t = x - 1
      · rw [if_pos ⟨by omega, e⟩, if_pos ⟨by omega, e⟩]
      · rw [if_neg (fun h => e h.2), if_neg (fun h => e h.2)]
    · rw [if_neg c, if_neg c]
  has := h.has
theorem EM.put1 {left : Lit → Bool} {x : Int} {E : DataW Unit} (h : EM lo hi f s D left x 0 E) (hE : Maps.IsMap E) (hi1 : lo ≤ x - 1 ∧ x - 1 ≤ hi) (v : Int) (hv : v = ((nxv lo hi f s D left (x - 1) + W lo hi f s x : Nat) : Int)) : EM lo hi f s D left x 1 (E.put (KI (x - 1)) (VI v)) where
  at_ := fun t => by
    by_cases e : t = x - 1
    · subst e
      rw [Maps.atKey_put_same hE (by trivial), if_pos hi1, if_pos ⟨by omega, rfl⟩, if_neg (c := 2 ≤ 1 ∧ x - 1 = x + 1) (by omega), hv, Nat.add_zero]
    · rw [Maps.atKey_put_other (key_ne e), h.at_ t, if_neg (c := 1 ≤ 0 ∧ t = x - 1) (by omega), if_neg (c := 2 ≤ 0 ∧ t = x + 1) (by omega), if_neg (c := 1 ≤ 1 ∧ t = x - 1) (fun h => e h.2), if_neg (c := 2 ≤ 1 ∧ t = x + 1) (by omega)]
  has := fun b hb => by
    by_cases e : b = x - 1
    · subst e; exact hi1
    · rw [Maps.has_put_other (key_ne e)] at hb; exact h.has b hb
theorem EM.put2 {left : Lit → Bool} {x : Int} {E : DataW Unit} (h : EM lo hi f s D left x 1 E) (hE : Maps.IsMap E) (hi1 : lo ≤ x + 1 ∧ x + 1 ≤ hi) (v : Int) (hv : v = ((nxv lo hi f s D left (x + 1) + W lo hi f s x : Nat) : Int)) : EM lo hi f s D left x 2 (E.put (KI (x + 1)) (VI v)) where
  at_ := fun t => by
    by_cases e : t = x + 1
    · subst e
      rw [Maps.atKey_put_same hE (by trivial), if_pos hi1, if_neg (c := 1 ≤ 2 ∧ x + 1 = x - 1) (by omega), if_pos ⟨by omega, rfl⟩, hv, Nat.add_zero]
    · rw [Maps.atKey_put_other (key_ne e), h.at_ t, if_neg (c := 2 ≤ 1 ∧ t = x + 1) (by omega), if_neg (c := 2 ≤ 2 ∧ t = x + 1) (fun h => e h.2)]
      by_cases e2 : t = x - 1
      · rw [if_pos (c := 1 ≤ 1 ∧ t = x - 1) ⟨by omega, e2⟩, if_pos (c := 1 ≤ 2 ∧ t = x - 1) ⟨by omega, e2⟩]
      · rw [if_neg (c := 1 ≤ 1 ∧ t = x - 1) (fun h => e2 h.2), if_neg (c := 1 ≤ 2 ∧ t = x - 1) (fun h => e2 h.2)]
  has := fun b hb => by
    by_cases e : b = x + 1
    · subst e; exact hi1
    · rw [Maps.has_put_other (key_ne e)] at hb; exact h.has b hb
/-- Both places are done: the entry is no longer to come. -/
theorem EM.next {left : Lit → Bool} {x : Int} {E : DataW Unit} (h : EM lo hi f s D left x 2 E) (hx : Maps.has D (KI x) = true) (hl : left (KI x) = true) (y : Int) : EM lo hi f s D (fun z => left z && !z.sameKey (KI x)) y 0 E where
  at_ := fun t => by
    have hp : ∀ b, prt lo hi f s D (fun z => left z && !z.sameKey (KI x)) b = prt lo hi f s D left b + (if b = x then W lo hi f s x else 0) := by
      intro b
      unfold prt
      by_cases e : b = x
      · subst e
        have h1 : doneW D (fun z => left z && !z.sameKey (KI b)) b = true := by
          show (Maps.has D (KI b) && !(left (KI b) && !(KI b).sameKey (KI b))) = true
          rw [hx, hl, same_self]; rfl
        have h2 : doneW D left b = false := by unfold doneW; rw [hx, hl]; rfl
        rw [h1, h2]; simp
      · have h1 : doneW D (fun z => left z && !z.sameKey (KI x)) b = doneW D left b := by
          show (Maps.has D (KI b) && !(left (KI b) && !(KI b).sameKey (KI x))) = (Maps.has D (KI b) && !left (KI b))
          rw [same_ne e]; simp
        rw [h1, if_neg e]; simp
    rw [h.at_ t]
    by_cases c : lo ≤ t ∧ t ≤ hi
    · rw [if_pos c, if_pos c, if_neg (c := 1 ≤ 0 ∧ t = y - 1) (by omega), if_neg (c := 2 ≤ 0 ∧ t = y + 1) (by omega)]
      unfold nxv
      rw [hp, hp]
      by_cases e1 : t = x - 1
      · rw [if_pos ⟨by omega, e1⟩, if_neg (c := 2 ≤ 2 ∧ t = x + 1) (by omega), if_neg (c := t - 1 = x) (by omega), if_pos (c := t + 1 = x) (by omega)]
        exact congrArg (fun n : Nat => VI (n : Int)) (by omega)
      · rw [if_neg (c := 1 ≤ 2 ∧ t = x - 1) (fun h => e1 h.2), if_neg (c := t + 1 = x) (by omega)]
        by_cases e2 : t = x + 1
        · rw [if_pos (c := 2 ≤ 2 ∧ t = x + 1) ⟨by omega, e2⟩, if_pos (c := t - 1 = x) (by omega)]
          exact congrArg (fun n : Nat => VI (n : Int)) (by omega)
        · rw [if_neg (c := 2 ≤ 2 ∧ t = x + 1) (fun h => e2 h.2), if_neg (c := t - 1 = x) (by omega)]
          exact congrArg (fun n : Nat => VI (n : Int)) (by omega)
    · rw [if_neg c, if_neg c]
  has := h.has
theorem WR.zero_out (h : WR lo hi f s D) {b : Int} (hb : Maps.has D (KI b) = false) : W lo hi f s b = 0 := by
  have h1 := h.at_ b
  rw [Maps.atKey_of_not_has hb] at h1
  injection h1 with h1
  injection h1 with _ h1
  exact (Int.ofNat.inj h1).symm
/-- Nothing is to come: the next step's map. -/
theorem EM.done {left : Lit → Bool} {x : Int} {E : DataW Unit} (h : EM lo hi f s D left x 0 E) (hD : WR lo hi f s D) (hl : ∀ kl, left kl = false) : WR lo hi f (s + 1) E where
  at_ := fun t => by
    have hp : ∀ b, prt lo hi f s D left b = W lo hi f s b := by
      intro b
      unfold prt doneW
      rw [hl]
      cases hb : Maps.has D (KI b) with
      | true => rfl
      | false => rw [hD.zero_out hb]; rfl
    rw [h.at_ t, if_neg (c := 1 ≤ 0 ∧ t = x - 1) (by omega), if_neg (c := 2 ≤ 0 ∧ t = x + 1) (by omega), Nat.add_zero, Nat.add_zero, W]
    unfold nxv
    rw [hp, hp]
  has := h.has
theorem prt_le (left : Lit → Bool) (b : Int) (hs : s ≤ 60) : prt lo hi f s D left b ≤ 118264581564861424 := by
  unfold prt
  split
  · exact Nat.le_trans (W_le_V _ _ _ _ _) (V_small _ _ hs)
  · omega
theorem nxv_le (left : Lit → Bool) (t : Int) (hs : s ≤ 60) : nxv lo hi f s D left t ≤ 236529163129722848 := by
  have h1 := prt_le (lo := lo) (hi := hi) (f := f) (D := D) left (t - 1) hs
  have h2 := prt_le (lo := lo) (hi := hi) (f := f) (D := D) left (t + 1) hs
  unfold nxv; omega
end
theorem inside_calls (B0 : Nat) (x lo hi : Int) (w : World) (hlo : w.cell? ⟨B0, 0, none⟩ = some (.int .i64 lo)) (hhi : w.cell? ⟨B0 + 1, 0, none⟩ = some (.int .i64 hi)) :
    Calls Tryd.prog 64 #[.int .i64 x, .pointer (some ⟨B0, 0, none⟩), .pointer (some ⟨B0 + 1, 0, none⟩)] w fun e w' => e = .returned (.bool (decide (lo ≤ x ∧ x ≤ hi))) ∧ w' = w := by
  by_cases c1 : lo ≤ x
  · have d1 : decide (lo ≤ x) = true := decide_eq_true c1
    by_cases c2 : x ≤ hi
    · have d2 : decide (x ≤ hi) = true := decide_eq_true c2
      rw [decide_eq_true (show lo ≤ x ∧ x ≤ hi from ⟨c1, c2⟩)]
      clear c1 c2
      go_enter Tryd.func64, Tryd.ntmps64
      go_wp2
      go_ret
      exact ⟨rfl, rfl⟩
    · have d2 : decide (x ≤ hi) = false := decide_eq_false c2
      rw [decide_eq_false (show ¬ (lo ≤ x ∧ x ≤ hi) from fun h => c2 h.2)]
      clear c1 c2
      go_enter Tryd.func64, Tryd.ntmps64
      go_wp2
      go_ret
      exact ⟨rfl, rfl⟩
  · have d1 : decide (lo ≤ x) = false := decide_eq_false c1
    rw [decide_eq_false (show ¬ (lo ≤ x ∧ x ≤ hi) from fun h => c1 h.1)]
    clear c1
    go_enter Tryd.func64, Tryd.ntmps64
    go_wp2
    go_ret
    exact ⟨rfl, rfl⟩
set_option maxHeartbeats 4000000 in
set_option maxRecDepth 100000 in
theorem within_main (n : Nat) (f t lo hi : Int) (hn : n ≤ 60) (f1 : farW f = false) (f2 : farW t = false) (f3 : farW lo = false) (f4 : farW hi = false) (w : World) :
    Calls Tryd.prog 35 #[.int .i64 n, .int .i64 f, .int .i64 t, .int .i64 lo, .int .i64 hi] w fun e w' => e = .returned (.tuple #[.int .i64 ((W lo hi f n t : Nat) : Int), .int .i64 0]) ∧ Below w.heap.size w w' := by
  have d1 : decide ((n : Int) < 0) = false := decide_eq_false (by omega)
  have d2 : decide ((60 : Int) < (n : Int)) = false := decide_eq_false (by omega)
  have hmm := @run_makeMap Tryd.prog
  have hcf : Pw.slices_ContainsFunc_int_int.f 6 [f, t, lo, hi] = some false := by rw [contains4, f1, f2, f3, f4]; rfl
  have HF : Aside0 (-60 ≤ lo ∧ hi ≤ 60 ∧ -60 ≤ t ∧ t ≤ 60 ∧ -60 ≤ f ∧ f ≤ 60) := ⟨by
    unfold farW at f1 f2 f3 f4
    have := of_decide_eq_false f1
    have := of_decide_eq_false f2
    have := of_decide_eq_false f3
    have := of_decide_eq_false f4
    omega⟩
  have wff : (Lit.int .i64 f).wf = true := WalkArith.wf_i64 (by have := HF.out; omega)
  clear f1 f2 f3 f4
  obtain ⟨B0, HBB⟩ : ∃ B0, Aside0 (w.heap.size = B0) := ⟨_, ⟨rfl⟩⟩
  by_cases hin : lo ≤ f ∧ f ≤ hi
  · have hin2 : (decide (lo ≤ f) && decide (f ≤ hi)) = true := by rw [decide_eq_true hin.1, decide_eq_true hin.2]; rfl
    have HWR := Aside0.mk (WR.in_ hin.1 hin.2)
    clear hin
    go_enter Tryd.func35, Tryd.ntmps35
    go_wp2_with (first | (go_at_call 62; refine (Pw.slices_ContainsFunc_int_int.calls 6 (some ⟨w.heap.size + 1 + 1, 0, none⟩) 4 [f, t, lo, hi] false _ (four_C w f t lo hi) (Nat.le_refl 4) hcf).mono ?_; rintro e w1 ⟨rfl, ⟨nd, hw1⟩⟩; obtain ⟨hlo, hhi, HB0, hsz⟩ := four_after w f t lo hi nd; rw [← hw1] at hlo hhi HB0 hsz; clear hw1; have HB0 := Aside0.mk HB0; rw [HBB.out] at hlo hhi hsz ⊢; clear hcf) | (go_at_call 64; refine (inside_calls B0 f lo hi _ (by rw [World.cell?_of_block (Below.heap_alloc _ _ _ (by show B0 < _; omega))]; exact hlo) (by rw [World.cell?_of_block (Below.heap_alloc _ _ _ (by show B0 + 1 < _; omega))]; exact hhi)).mono ?_; rintro e w2 ⟨rfl, rfl⟩) | (at_mapUpdate; go_loud (refine wpList_mapUpdate_own _ rfl _ _ _ 65 rfl 3 3 (int_keyed Tryd.underlying3) Tryd.underlying65 _ w1.heap.size 0 _ rfl (World.ownsMap_made w1 Tryd.prog 3 (plainElem (H := Unit) Tryd.prog 3)) (by unfold maxLen; omega) _ _ _ rfl rfl (keyOf_int_mk Tryd.underlying3 wff) _ [] (plainElem_int Tryd.underlying3 (by decide)) ?_; intro wS hownS hgrowS; have HOw := Aside0.mk hownS; have HBS := Aside0.mk ((below_alloc (Below.refl w1.heap.size w1) (.map #[] 0)).grown hgrowS (by simp) (fun j hj => by cases hj; exact Nat.le_refl _)); clear hownS hgrowS)) | go_in)
    (try go_frame)
    go_loopg [13, 41] n (fun q v13 v41 wr => ∃ (s b m : Nat) (D : DataW Unit), v13 = .map (some b) ∧ v41 = .int .i64 s ∧ s + q = n ∧ w1.heap.size ≤ b ∧ m ≤ 2 ^ s ∧ wr.ownsMap Tryd.prog 3 (plainElem Tryd.prog 3) b m D ∧ Aside0 (WR lo hi f s D) ∧ Aside0 (Below w1.heap.size w1 wr))
    case atStart => exact ⟨0, w1.heap.size, 1, _, rfl, rfl, by omega, Nat.le_refl _, Nat.le_refl _, HOw.out, HWR, HBS⟩
    case round =>
      clear HOw HWR HBS
      obtain ⟨s, b, m, D, rfl, rfl, hsq, hbb, hm, hown, HWR, HBw⟩ := hrel
      by_cases hsn : s < n
      · obtain ⟨q, rfl⟩ : ∃ q, gk = q + 1 := ⟨gk - 1, by omega⟩
        have hle : decide ((s : Int) < (n : Int)) = true := decide_eq_true (by omega)
        go_wp2_with (first | (at_range; refine wpList_range_own _ rfl _ 65 rfl 3 3 (int_keyed Tryd.underlying3) Tryd.underlying65 _ b m _ rfl (hown.alloc _) ?_; intro w0 hrg0 hg0 hs0) | go_in)
        go_frame
        have e1 : (wr.alloc (.map #[] 0)).heap.size = wr.heap.size + 1 := by simp
        rw [e1] at hrg0 hs0 ⊢
        have hE0 := (World.ownsMap_made wr Tryd.prog 3 (plainElem (H := Unit) Tryd.prog 3)).kept hg0 (by simp)
        have HB3 := Aside0.mk ((below_alloc HBw.out (.map #[] 0)).grown hg0 (by have := HBw.out.size; rw [e1]; omega) (fun j hj => by cases hj))
        have hb2 : w1.heap.size ≤ wr.heap.size := HBw.out.size
        have hblt : b < wr.heap.size := hown.lt
        have hszD : Maps.size D ≤ m := hown.size_le
        obtain ⟨b2, hbd⟩ : ∃ b2, wr.heap.size = b2 := ⟨_, rfl⟩
        rw [hbd] at hrg0 hs0 hE0 hb2 hblt ⊢
        clear hbd e1 hg0 hown HBw
        go_loopg [15] (Maps.size D) (fun qq v15 wi => ∃ (left : Lit → Bool) (E : DataW Unit) (mE : Nat), wi.ranges Tryd.prog 3 (plainElem Tryd.prog 3) b (b2 + 1) m D left qq ∧ mE + 2 * qq ≤ 2 * m ∧ wi.ownsMap Tryd.prog 3 (plainElem Tryd.prog 3) b2 mE E ∧ Aside0 (EM lo hi f s D left 0 0 E) ∧ Aside0 (Below w1.heap.size w1 wi) ∧ b2 + 1 < wi.heap.size)
        case atStart => exact ⟨Maps.has D, .map [], 0, hrg0, by omega, hE0, ⟨EM.start 0⟩, HB3, by omega⟩
        case round =>
          clear hrg0 hE0 HB3 hs0
          rename_i gk0
          obtain ⟨left, E, mE, hrg, hmE, hE, HEM, HBi, hwi⟩ := hrel
          go_wp2_with (first | (at_next; refine wpList_next_ranges_ii _ rfl _ rfl 3 3 .i64 .i64 (int_keyed Tryd.underlying3) Tryd.underlying3 Tryd.underlying3 b (b2 + 1) m _ _ _ rfl hrg ?_ ?_) | go_in)
          · intro hc0 hl0
            subst hc0
            have HWR2 := Aside0.mk (HEM.out.done HWR.out hl0)
            have hm2 : mE ≤ 2 ^ (s + 1) := by rw [Nat.pow_succ]; omega
            clear hrg HEM hmE
            go_wp2
            go_roundg q
            case measure => omega
            case rel => exact ⟨s + 1, b2, mE, E, rfl, by rw [Int.natCast_succ], by omega, hb2, hm2, hE, HWR2, HBi⟩
          · intro x c w4 cnt1 hwx hwc hlx hat hrg1 hlt hg1 hs1 hen
            have hasx := Maps.has_true_of_atKey hat
            have hxb := HWR.out.has x hasx
            have hcv : c = ((W lo hi f s x : Nat) : Int) := by
              have h1 := HWR.out.at_ x
              rw [hat (VI 0)] at h1
              injection h1 with h1
              injection h1 with _ h1
            subst hcv
            have hcle : W lo hi f s x ≤ 118264581564861424 := Nat.le_trans (W_le_V _ _ _ _ _) (V_small _ _ (by omega))
            have hE1 := hE.kept hg1 (by simp)
            have HB1 := Aside0.mk (HBi.out.grown hg1 HBi.out.size (fun j hj => by cases hj; omega))
            have hxr : -60 ≤ x ∧ x ≤ 60 := by have := HF.out; omega
            have xm : wrap64 (x - 1) = x - 1 := by unfold wrap64; omega
            have xp : wrap64 (x + 1) = x + 1 := by unfold wrap64; omega
            have hwi1 : b2 + 1 < w4.heap.size := by omega
            clear hE hg1 HBi hrg hs1
            go_wp2
            clear xm xp
            obtain ⟨gb, hgb⟩ : ∃ gb, w4.heap.size = gb := ⟨_, rfl⟩
            have hm60 : m ≤ 1152921504606846976 := Nat.le_trans hm (Nat.pow_le_pow_right (by omega) (by omega : s ≤ 60))
            have h0w : (w4.alloc (.cells #[.int .i64 (x - 1), .int .i64 (x + 1)] 3)).cell? ⟨gb, 0, none⟩ = some (.int .i64 (x - 1)) := by
              simp only [World.cell?, ← hgb, heap_alloc_new]; rfl
            have h1w : (w4.alloc (.cells #[.int .i64 (x - 1), .int .i64 (x + 1)] 3)).cell? ⟨gb, 1, none⟩ = some (.int .i64 (x + 1)) := by
              simp only [World.cell?, ← hgb, heap_alloc_new]; rfl
            have hga := World.grownBy_alloc w4 (.cells #[.int .i64 (x - 1), .int .i64 (x + 1)] 3) none
            have hrgA := hrg1.kept hga (by simp) (by simp)
            have hEA := hE1.kept hga (by simp)
            have HBA := Aside0.mk (below_alloc HB1.out (.cells #[.int .i64 (x - 1), .int .i64 (x + 1)] 3))
            have HEMA := Aside0.mk (HEM.out.other x)
            have hsA : b2 + 1 < gb ∧ gb < (w4.alloc (.cells #[.int .i64 (x - 1), .int .i64 (x + 1)] 3)).heap.size := by simp; omega
            rw [hgb]
            clear hga hrg1 hE1 HB1 HEM hgb
            go_loopg [57] 2 (fun qj v57 wj => ∃ (j : Nat) (Ej : DataW Unit) (mj : Nat), v57 = .int .i64 j ∧ j + qj = 2 ∧ wj.ranges Tryd.prog 3 (plainElem Tryd.prog 3) b (b2 + 1) m D (fun z => left z && !z.sameKey (.int .i64 x)) cnt1 ∧ mj ≤ mE + j ∧ wj.ownsMap Tryd.prog 3 (plainElem Tryd.prog 3) b2 mj Ej ∧ Aside0 (EM lo hi f s D left x j Ej) ∧ Aside0 (Below w1.heap.size w1 wj) ∧ wj.cell? ⟨gb, 0, none⟩ = some (.int .i64 (x - 1)) ∧ wj.cell? ⟨gb, 1, none⟩ = some (.int .i64 (x + 1)) ∧ gb < wj.heap.size)
            case atStart => exact ⟨0, E, mE, rfl, rfl, hrgA, by omega, hEA, HEMA, HBA, h0w, h1w, hsA.2⟩
            case round =>
              have hsA1 := hsA.1
              clear hrgA hEA HEMA HBA h0w h1w hsA
              rename_i gkm _ _ _ _
              obtain ⟨j, Ej, mj, rfl, hjq, hrgj, hmj, hEj, HEMj, HBj, hc0j, hc1j, hgj⟩ := hrel
              obtain rfl | rfl | rfl : j = 0 ∨ j = 1 ∨ j = 2 := by omega
              · -- j = 0
                obtain ⟨qj, rfl⟩ : ∃ qj, gk = qj + 1 := ⟨gk - 1, by omega⟩
                have wfx : (Lit.int .i64 (x - 1)).wf = true := WalkArith.wf_i64 (by omega)
                by_cases hins : lo ≤ (x - 1) ∧ (x - 1) ≤ hi
                · have hins2 : (decide (lo ≤ (x - 1)) && decide ((x - 1) ≤ hi)) = true := by rw [decide_eq_true hins.1, decide_eq_true hins.2]; rfl
                  have hatE := HEMj.out.at_ (x - 1)
                  obtain ⟨nv, hnv⟩ : ∃ nv, nxv lo hi f s D left (x - 1) = nv := ⟨_, rfl⟩
                  have hnle : nv ≤ 236529163129722848 := hnv ▸ nxv_le left _ (by omega)
                  rw [if_pos hins, hnv, if_neg (c := 1 ≤ 0 ∧ x - 1 = x - 1) (by omega), if_neg (c := 2 ≤ 0 ∧ x - 1 = x + 1) (by omega)] at hatE
                  simp only [Nat.add_zero] at hatE
                  have wfv : (Lit.int .i64 (wrap64 ((nv : Int) + ((W lo hi f s x : Nat) : Int)))).wf = true := wrap64_wf _
                  have HPUT := Aside0.mk (HEMj.out.put1 (hEj.isMap) hins (wrap64 ((nv : Int) + ((W lo hi f s x : Nat) : Int))) (by rw [hnv]; unfold wrap64; omega))
                  have HMJ := Aside0.mk hmj
                  have hmx : mj < maxLen := by unfold maxLen; omega
                  have n1 : some b ≠ some b2 := fun e => by have := Option.some.inj e; omega
                  have n2 : some (b2 + 1) ≠ some b2 := fun e => by have := Option.some.inj e; omega
                  have n3 : some gb ≠ some b2 := fun e => by have := Option.some.inj e; omega
                  have l1 : B0 < w1.heap.size := by omega
                  clear hins hnv HEMj hcle hnle hxr hxb hmj hmE hm60 hm hlt
                  go_wp2_with (first | (go_at_call 64; refine (inside_calls B0 (x - 1) lo hi _ ((HBj.out.cell (p := ⟨B0, 0, none⟩) l1).trans hlo) ((HBj.out.cell (p := ⟨B0 + 1, 0, none⟩) hsz).trans hhi)).mono ?_; rintro e w5 ⟨rfl, rfl⟩) | (at_lookup; go_loud (refine wpList_lookup_own_int _ rfl _ _ 65 rfl 3 3 .i64 (int_keyed Tryd.underlying3) Tryd.underlying65 Tryd.underlying3 (by kernel_rfl) b2 _ Ej rfl hEj _ _ rfl (keyOf_int_mk Tryd.underlying3 wfx) ?_; intro c0 hat0 hwc0; rw [hatE] at hat0; cases hat0; clear hwc0)) | (at_mapUpdate; go_loud (refine wpList_mapUpdate_own _ rfl _ _ _ 65 rfl 3 3 (int_keyed Tryd.underlying3) Tryd.underlying65 _ b2 _ Ej rfl hEj hmx _ _ _ rfl rfl (keyOf_int_mk Tryd.underlying3 wfx) _ [] (plainElem_int Tryd.underlying3 wfv) ?_; intro w6 hE6 hg6; have hrg6 := hrgj.kept hg6 n1 n2; have HB6 := Aside0.mk (HBj.out.grown hg6 HBj.out.size (fun k hk => by cases hk; exact hb2)); have h06 := (World.cell?_of_block (hg6.block gb hgj n3)).trans hc0j; have h16 := (World.cell?_of_block (hg6.block gb hgj n3)).trans hc1j; have hs6 := hg6.size; clear hrgj hg6 hEj HBj hc0j hc1j)) | go_in)
                  go_roundg qj
                  case measure => omega
                  case rel => exact ⟨1, _, mj + 1, rfl, by omega, hrg6, by have := HMJ.out; omega, hE6, HPUT, HB6, h06, h16, by omega⟩
                · have hins2 : (decide (lo ≤ (x - 1)) && decide ((x - 1) ≤ hi)) = false := by
                    by_cases c : lo ≤ (x - 1)
                    · rw [decide_eq_false (show ¬ (x - 1) ≤ hi from fun h => hins ⟨c, h⟩)]; simp
                    · rw [decide_eq_false c]; rfl
                  have l1 : B0 < w1.heap.size := by omega
                  have HSK := Aside0.mk (HEMj.out.skip1 hins)
                  clear hins HEMj
                  go_wp2_with (first | (go_at_call 64; refine (inside_calls B0 (x - 1) lo hi _ ((HBj.out.cell (p := ⟨B0, 0, none⟩) l1).trans hlo) ((HBj.out.cell (p := ⟨B0 + 1, 0, none⟩) hsz).trans hhi)).mono ?_; rintro e w5 ⟨rfl, rfl⟩))
                  go_roundg qj
                  case measure => omega
                  case rel => exact ⟨1, Ej, mj, rfl, by omega, hrgj, by omega, hEj, HSK, HBj, hc0j, hc1j, hgj⟩
              · -- j = 1
                obtain ⟨qj, rfl⟩ : ∃ qj, gk = qj + 1 := ⟨gk - 1, by omega⟩
                have wfx : (Lit.int .i64 (x + 1)).wf = true := WalkArith.wf_i64 (by omega)
                by_cases hins : lo ≤ (x + 1) ∧ (x + 1) ≤ hi
                · have hins2 : (decide (lo ≤ (x + 1)) && decide ((x + 1) ≤ hi)) = true := by rw [decide_eq_true hins.1, decide_eq_true hins.2]; rfl
                  have hatE := HEMj.out.at_ (x + 1)
                  obtain ⟨nv, hnv⟩ : ∃ nv, nxv lo hi f s D left (x + 1) = nv := ⟨_, rfl⟩
                  have hnle : nv ≤ 236529163129722848 := hnv ▸ nxv_le left _ (by omega)
                  rw [if_pos hins, hnv, if_neg (c := 1 ≤ 1 ∧ x + 1 = x - 1) (by omega), if_neg (c := 2 ≤ 1 ∧ x + 1 = x + 1) (by omega)] at hatE
                  simp only [Nat.add_zero] at hatE
                  have wfv : (Lit.int .i64 (wrap64 ((nv : Int) + ((W lo hi f s x : Nat) : Int)))).wf = true := wrap64_wf _
                  have HPUT := Aside0.mk (HEMj.out.put2 (hEj.isMap) hins (wrap64 ((nv : Int) + ((W lo hi f s x : Nat) : Int))) (by rw [hnv]; unfold wrap64; omega))
                  have HMJ := Aside0.mk hmj
                  have hmx : mj < maxLen := by unfold maxLen; omega
                  have n1 : some b ≠ some b2 := fun e => by have := Option.some.inj e; omega
                  have n2 : some (b2 + 1) ≠ some b2 := fun e => by have := Option.some.inj e; omega
                  have n3 : some gb ≠ some b2 := fun e => by have := Option.some.inj e; omega
                  have l1 : B0 < w1.heap.size := by omega
                  clear hins hnv HEMj hcle hnle hxr hxb hmj hmE hm60 hm hlt
                  go_wp2_with (first | (go_at_call 64; refine (inside_calls B0 (x + 1) lo hi _ ((HBj.out.cell (p := ⟨B0, 0, none⟩) l1).trans hlo) ((HBj.out.cell (p := ⟨B0 + 1, 0, none⟩) hsz).trans hhi)).mono ?_; rintro e w5 ⟨rfl, rfl⟩) | (at_lookup; go_loud (refine wpList_lookup_own_int _ rfl _ _ 65 rfl 3 3 .i64 (int_keyed Tryd.underlying3) Tryd.underlying65 Tryd.underlying3 (by kernel_rfl) b2 _ Ej rfl hEj _ _ rfl (keyOf_int_mk Tryd.underlying3 wfx) ?_; intro c0 hat0 hwc0; rw [hatE] at hat0; cases hat0; clear hwc0)) | (at_mapUpdate; go_loud (refine wpList_mapUpdate_own _ rfl _ _ _ 65 rfl 3 3 (int_keyed Tryd.underlying3) Tryd.underlying65 _ b2 _ Ej rfl hEj hmx _ _ _ rfl rfl (keyOf_int_mk Tryd.underlying3 wfx) _ [] (plainElem_int Tryd.underlying3 wfv) ?_; intro w6 hE6 hg6; have hrg6 := hrgj.kept hg6 n1 n2; have HB6 := Aside0.mk (HBj.out.grown hg6 HBj.out.size (fun k hk => by cases hk; exact hb2)); have h06 := (World.cell?_of_block (hg6.block gb hgj n3)).trans hc0j; have h16 := (World.cell?_of_block (hg6.block gb hgj n3)).trans hc1j; have hs6 := hg6.size; clear hrgj hg6 hEj HBj hc0j hc1j)) | go_in)
                  go_roundg qj
                  case measure => omega
                  case rel => exact ⟨2, _, mj + 1, rfl, by omega, hrg6, by have := HMJ.out; omega, hE6, HPUT, HB6, h06, h16, by omega⟩
                · have hins2 : (decide (lo ≤ (x + 1)) && decide ((x + 1) ≤ hi)) = false := by
                    by_cases c : lo ≤ (x + 1)
                    · rw [decide_eq_false (show ¬ (x + 1) ≤ hi from fun h => hins ⟨c, h⟩)]; simp
                    · rw [decide_eq_false c]; rfl
                  have l1 : B0 < w1.heap.size := by omega
                  have HSK := Aside0.mk (HEMj.out.skip2 hins)
                  clear hins HEMj
                  go_wp2_with (first | (go_at_call 64; refine (inside_calls B0 (x + 1) lo hi _ ((HBj.out.cell (p := ⟨B0, 0, none⟩) l1).trans hlo) ((HBj.out.cell (p := ⟨B0 + 1, 0, none⟩) hsz).trans hhi)).mono ?_; rintro e w5 ⟨rfl, rfl⟩))
                  go_roundg qj
                  case measure => omega
                  case rel => exact ⟨2, Ej, mj, rfl, by omega, hrgj, by omega, hEj, HSK, HBj, hc0j, hc1j, hgj⟩
              · -- both places are done
                obtain rfl : gk = 0 := by omega
                have HNX := Aside0.mk (HEMj.out.next hasx hlx 0)
                clear HEMj hc0j hc1j
                go_wp2
                go_roundg cnt1
                case measure => omega
                case rel => exact ⟨_, Ej, mj, hrgj, by omega, hEj, HNX, HBj, by omega⟩
      · obtain rfl : gk = 0 := by omega
        obtain rfl : s = n := by omega
        have hle : decide ((s : Int) < (s : Int)) = false := decide_eq_false (by omega)
        have wft : (Lit.int .i64 t).wf = true := WalkArith.wf_i64 (by have := HF.out; omega)
        have hatF := HWR.out.at_ t
        go_wp2_with (first | (at_lookup; go_loud (refine wpList_lookup_own_int _ rfl _ _ 65 rfl 3 3 .i64 (int_keyed Tryd.underlying3) Tryd.underlying65 Tryd.underlying3 (by kernel_rfl) b _ D rfl hown _ _ rfl (keyOf_int_mk Tryd.underlying3 wft) ?_; intro c0 hat0 hwc0; rw [hatF] at hat0; cases hat0; clear hwc0)) | go_in)
        go_ret2
        exact ⟨rfl, HB0.out.trans (HBw.out.mono HB0.out.size)⟩
  · have hin2 : (decide (lo ≤ f) && decide (f ≤ hi)) = false := by
      by_cases c : lo ≤ f
      · rw [decide_eq_false (show ¬ f ≤ hi from fun h => hin ⟨c, h⟩)]; simp
      · rw [decide_eq_false c]; rfl
    have HWR := Aside0.mk (WR.out hin)
    clear hin
    go_enter Tryd.func35, Tryd.ntmps35
    go_wp2_with (first | (go_at_call 62; refine (Pw.slices_ContainsFunc_int_int.calls 6 (some ⟨w.heap.size + 1 + 1, 0, none⟩) 4 [f, t, lo, hi] false _ (four_C w f t lo hi) (Nat.le_refl 4) hcf).mono ?_; rintro e w1 ⟨rfl, ⟨nd, hw1⟩⟩; obtain ⟨hlo, hhi, HB0, hsz⟩ := four_after w f t lo hi nd; rw [← hw1] at hlo hhi HB0 hsz; clear hw1; have HB0 := Aside0.mk HB0; rw [HBB.out] at hlo hhi hsz ⊢; clear hcf) | (go_at_call 64; refine (inside_calls B0 f lo hi _ (by rw [World.cell?_of_block (Below.heap_alloc _ _ _ (by show B0 < _; omega))]; exact hlo) (by rw [World.cell?_of_block (Below.heap_alloc _ _ _ (by show B0 + 1 < _; omega))]; exact hhi)).mono ?_; rintro e w2 ⟨rfl, rfl⟩))
    have HOw := Aside0.mk ((World.ownsMap_made w1 Tryd.prog 3 (plainElem (H := Unit) Tryd.prog 3)).mono (Nat.zero_le 1))
    have HBS := Aside0.mk (below_alloc (Below.refl w1.heap.size w1) (.map #[] 0))
    go_loopg [13, 41] n (fun q v13 v41 wr => ∃ (s b m : Nat) (D : DataW Unit), v13 = .map (some b) ∧ v41 = .int .i64 s ∧ s + q = n ∧ w1.heap.size ≤ b ∧ m ≤ 2 ^ s ∧ wr.ownsMap Tryd.prog 3 (plainElem Tryd.prog 3) b m D ∧ Aside0 (WR lo hi f s D) ∧ Aside0 (Below w1.heap.size w1 wr))
    case atStart => exact ⟨0, w1.heap.size, 1, _, rfl, rfl, by omega, Nat.le_refl _, Nat.le_refl _, HOw.out, HWR, HBS⟩
    case round =>
      clear HOw HWR HBS
      obtain ⟨s, b, m, D, rfl, rfl, hsq, hbb, hm, hown, HWR, HBw⟩ := hrel
      by_cases hsn : s < n
      · obtain ⟨q, rfl⟩ : ∃ q, gk = q + 1 := ⟨gk - 1, by omega⟩
        have hle : decide ((s : Int) < (n : Int)) = true := decide_eq_true (by omega)
        go_wp2_with (first | (at_range; refine wpList_range_own _ rfl _ 65 rfl 3 3 (int_keyed Tryd.underlying3) Tryd.underlying65 _ b m _ rfl (hown.alloc _) ?_; intro w0 hrg0 hg0 hs0) | go_in)
        go_frame
        have e1 : (wr.alloc (.map #[] 0)).heap.size = wr.heap.size + 1 := by simp
        rw [e1] at hrg0 hs0 ⊢
        have hE0 := (World.ownsMap_made wr Tryd.prog 3 (plainElem (H := Unit) Tryd.prog 3)).kept hg0 (by simp)
        have HB3 := Aside0.mk ((below_alloc HBw.out (.map #[] 0)).grown hg0 (by have := HBw.out.size; rw [e1]; omega) (fun j hj => by cases hj))
        have hb2 : w1.heap.size ≤ wr.heap.size := HBw.out.size
        have hblt : b < wr.heap.size := hown.lt
        have hszD : Maps.size D ≤ m := hown.size_le
        obtain ⟨b2, hbd⟩ : ∃ b2, wr.heap.size = b2 := ⟨_, rfl⟩
        rw [hbd] at hrg0 hs0 hE0 hb2 hblt ⊢
        clear hbd e1 hg0 hown HBw
        go_loopg [15] (Maps.size D) (fun qq v15 wi => ∃ (left : Lit → Bool) (E : DataW Unit) (mE : Nat), wi.ranges Tryd.prog 3 (plainElem Tryd.prog 3) b (b2 + 1) m D left qq ∧ mE + 2 * qq ≤ 2 * m ∧ wi.ownsMap Tryd.prog 3 (plainElem Tryd.prog 3) b2 mE E ∧ Aside0 (EM lo hi f s D left 0 0 E) ∧ Aside0 (Below w1.heap.size w1 wi) ∧ b2 + 1 < wi.heap.size)
        case atStart => exact ⟨Maps.has D, .map [], 0, hrg0, by omega, hE0, ⟨EM.start 0⟩, HB3, by omega⟩
        case round =>
          clear hrg0 hE0 HB3 hs0
          rename_i gk0
          obtain ⟨left, E, mE, hrg, hmE, hE, HEM, HBi, hwi⟩ := hrel
          go_wp2_with (first | (at_next; refine wpList_next_ranges_ii _ rfl _ rfl 3 3 .i64 .i64 (int_keyed Tryd.underlying3) Tryd.underlying3 Tryd.underlying3 b (b2 + 1) m _ _ _ rfl hrg ?_ ?_) | go_in)
          · intro hc0 hl0
            subst hc0
            have HWR2 := Aside0.mk (HEM.out.done HWR.out hl0)
            have hm2 : mE ≤ 2 ^ (s + 1) := by rw [Nat.pow_succ]; omega
            clear hrg HEM hmE
            go_wp2
            go_roundg q
            case measure => omega
            case rel => exact ⟨s + 1, b2, mE, E, rfl, by rw [Int.natCast_succ], by omega, hb2, hm2, hE, HWR2, HBi⟩
          · intro x c w4 cnt1 hwx hwc hlx hat hrg1 hlt hg1 hs1 hen
            have hasx := Maps.has_true_of_atKey hat
            have hxb := HWR.out.has x hasx
            have hcv : c = ((W lo hi f s x : Nat) : Int) := by
              have h1 := HWR.out.at_ x
              rw [hat (VI 0)] at h1
              injection h1 with h1
              injection h1 with _ h1
            subst hcv
            have hcle : W lo hi f s x ≤ 118264581564861424 := Nat.le_trans (W_le_V _ _ _ _ _) (V_small _ _ (by omega))
            have hE1 := hE.kept hg1 (by simp)
            have HB1 := Aside0.mk (HBi.out.grown hg1 HBi.out.size (fun j hj => by cases hj; omega))
            have hxr : -60 ≤ x ∧ x ≤ 60 := by have := HF.out; omega
            have xm : wrap64 (x - 1) = x - 1 := by unfold wrap64; omega
            have xp : wrap64 (x + 1) = x + 1 := by unfold wrap64; omega
            have hwi1 : b2 + 1 < w4.heap.size := by omega
            clear hE hg1 HBi hrg hs1
            go_wp2
            clear xm xp
            obtain ⟨gb, hgb⟩ : ∃ gb, w4.heap.size = gb := ⟨_, rfl⟩
            have hm60 : m ≤ 1152921504606846976 := Nat.le_trans hm (Nat.pow_le_pow_right (by omega) (by omega : s ≤ 60))
            have h0w : (w4.alloc (.cells #[.int .i64 (x - 1), .int .i64 (x + 1)] 3)).cell? ⟨gb, 0, none⟩ = some (.int .i64 (x - 1)) := by
              simp only [World.cell?, ← hgb, heap_alloc_new]; rfl
            have h1w : (w4.alloc (.cells #[.int .i64 (x - 1), .int .i64 (x + 1)] 3)).cell? ⟨gb, 1, none⟩ = some (.int .i64 (x + 1)) := by
              simp only [World.cell?, ← hgb, heap_alloc_new]; rfl
            have hga := World.grownBy_alloc w4 (.cells #[.int .i64 (x - 1), .int .i64 (x + 1)] 3) none
            have hrgA := hrg1.kept hga (by simp) (by simp)
            have hEA := hE1.kept hga (by simp)
            have HBA := Aside0.mk (below_alloc HB1.out (.cells #[.int .i64 (x - 1), .int .i64 (x + 1)] 3))
            have HEMA := Aside0.mk (HEM.out.other x)
            have hsA : b2 + 1 < gb ∧ gb < (w4.alloc (.cells #[.int .i64 (x - 1), .int .i64 (x + 1)] 3)).heap.size := by simp; omega
            rw [hgb]
            clear hga hrg1 hE1 HB1 HEM hgb
            go_loopg [57] 2 (fun qj v57 wj => ∃ (j : Nat) (Ej : DataW Unit) (mj : Nat), v57 = .int .i64 j ∧ j + qj = 2 ∧ wj.ranges Tryd.prog 3 (plainElem Tryd.prog 3) b (b2 + 1) m D (fun z => left z && !z.sameKey (.int .i64 x)) cnt1 ∧ mj ≤ mE + j ∧ wj.ownsMap Tryd.prog 3 (plainElem Tryd.prog 3) b2 mj Ej ∧ Aside0 (EM lo hi f s D left x j Ej) ∧ Aside0 (Below w1.heap.size w1 wj) ∧ wj.cell? ⟨gb, 0, none⟩ = some (.int .i64 (x - 1)) ∧ wj.cell? ⟨gb, 1, none⟩ = some (.int .i64 (x + 1)) ∧ gb < wj.heap.size)
            case atStart => exact ⟨0, E, mE, rfl, rfl, hrgA, by omega, hEA, HEMA, HBA, h0w, h1w, hsA.2⟩
            case round =>
              have hsA1 := hsA.1
              clear hrgA hEA HEMA HBA h0w h1w hsA
              rename_i gkm _ _ _ _
              obtain ⟨j, Ej, mj, rfl, hjq, hrgj, hmj, hEj, HEMj, HBj, hc0j, hc1j, hgj⟩ := hrel
              obtain rfl | rfl | rfl : j = 0 ∨ j = 1 ∨ j = 2 := by omega
              · -- j = 0
                obtain ⟨qj, rfl⟩ : ∃ qj, gk = qj + 1 := ⟨gk - 1, by omega⟩
                have wfx : (Lit.int .i64 (x - 1)).wf = true := WalkArith.wf_i64 (by omega)
                by_cases hins : lo ≤ (x - 1) ∧ (x - 1) ≤ hi
                · have hins2 : (decide (lo ≤ (x - 1)) && decide ((x - 1) ≤ hi)) = true := by rw [decide_eq_true hins.1, decide_eq_true hins.2]; rfl
                  have hatE := HEMj.out.at_ (x - 1)
                  obtain ⟨nv, hnv⟩ : ∃ nv, nxv lo hi f s D left (x - 1) = nv := ⟨_, rfl⟩
                  have hnle : nv ≤ 236529163129722848 := hnv ▸ nxv_le left _ (by omega)
                  rw [if_pos hins, hnv, if_neg (c := 1 ≤ 0 ∧ x - 1 = x - 1) (by omega), if_neg (c := 2 ≤ 0 ∧ x - 1 = x + 1) (by omega)] at hatE
                  simp only [Nat.add_zero] at hatE
                  have wfv : (Lit.int .i64 (wrap64 ((nv : Int) + ((W lo hi f s x : Nat) : Int)))).wf = true := wrap64_wf _
                  have HPUT := Aside0.mk (HEMj.out.put1 (hEj.isMap) hins (wrap64 ((nv : Int) + ((W lo hi f s x : Nat) : Int))) (by rw [hnv]; unfold wrap64; omega))
                  have HMJ := Aside0.mk hmj
                  have hmx : mj < maxLen := by unfold maxLen; omega
                  have n1 : some b ≠ some b2 := fun e => by have := Option.some.inj e; omega
                  have n2 : some (b2 + 1) ≠ some b2 := fun e => by have := Option.some.inj e; omega
                  have n3 : some gb ≠ some b2 := fun e => by have := Option.some.inj e; omega
                  have l1 : B0 < w1.heap.size := by omega
                  clear hins hnv HEMj hcle hnle hxr hxb hmj hmE hm60 hm hlt
                  go_wp2_with (first | (go_at_call 64; refine (inside_calls B0 (x - 1) lo hi _ ((HBj.out.cell (p := ⟨B0, 0, none⟩) l1).trans hlo) ((HBj.out.cell (p := ⟨B0 + 1, 0, none⟩) hsz).trans hhi)).mono ?_; rintro e w5 ⟨rfl, rfl⟩) | (at_lookup; go_loud (refine wpList_lookup_own_int _ rfl _ _ 65 rfl 3 3 .i64 (int_keyed Tryd.underlying3) Tryd.underlying65 Tryd.underlying3 (by kernel_rfl) b2 _ Ej rfl hEj _ _ rfl (keyOf_int_mk Tryd.underlying3 wfx) ?_; intro c0 hat0 hwc0; rw [hatE] at hat0; cases hat0; clear hwc0)) | (at_mapUpdate; go_loud (refine wpList_mapUpdate_own _ rfl _ _ _ 65 rfl 3 3 (int_keyed Tryd.underlying3) Tryd.underlying65 _ b2 _ Ej rfl hEj hmx _ _ _ rfl rfl (keyOf_int_mk Tryd.underlying3 wfx) _ [] (plainElem_int Tryd.underlying3 wfv) ?_; intro w6 hE6 hg6; have hrg6 := hrgj.kept hg6 n1 n2; have HB6 := Aside0.mk (HBj.out.grown hg6 HBj.out.size (fun k hk => by cases hk; exact hb2)); have h06 := (World.cell?_of_block (hg6.block gb hgj n3)).trans hc0j; have h16 := (World.cell?_of_block (hg6.block gb hgj n3)).trans hc1j; have hs6 := hg6.size; clear hrgj hg6 hEj HBj hc0j hc1j)) | go_in)
                  go_roundg qj
                  case measure => omega
                  case rel => exact ⟨1, _, mj + 1, rfl, by omega, hrg6, by have := HMJ.out; omega, hE6, HPUT, HB6, h06, h16, by omega⟩
                · have hins2 : (decide (lo ≤ (x - 1)) && decide ((x - 1) ≤ hi)) = false := by
                    by_cases c : lo ≤ (x - 1)
                    · rw [decide_eq_false (show ¬ (x - 1) ≤ hi from fun h => hins ⟨c, h⟩)]; simp
                    · rw [decide_eq_false c]; rfl
                  have l1 : B0 < w1.heap.size := by omega
                  have HSK := Aside0.mk (HEMj.out.skip1 hins)
                  clear hins HEMj
                  go_wp2_with (first | (go_at_call 64; refine (inside_calls B0 (x - 1) lo hi _ ((HBj.out.cell (p := ⟨B0, 0, none⟩) l1).trans hlo) ((HBj.out.cell (p := ⟨B0 + 1, 0, none⟩) hsz).trans hhi)).mono ?_; rintro e w5 ⟨rfl, rfl⟩))
                  go_roundg qj
                  case measure => omega
                  case rel => exact ⟨1, Ej, mj, rfl, by omega, hrgj, by omega, hEj, HSK, HBj, hc0j, hc1j, hgj⟩
              · -- j = 1
                obtain ⟨qj, rfl⟩ : ∃ qj, gk = qj + 1 := ⟨gk - 1, by omega⟩
                have wfx : (Lit.int .i64 (x + 1)).wf = true := WalkArith.wf_i64 (by omega)
                by_cases hins : lo ≤ (x + 1) ∧ (x + 1) ≤ hi
                · have hins2 : (decide (lo ≤ (x + 1)) && decide ((x + 1) ≤ hi)) = true := by rw [decide_eq_true hins.1, decide_eq_true hins.2]; rfl
                  have hatE := HEMj.out.at_ (x + 1)
                  obtain ⟨nv, hnv⟩ : ∃ nv, nxv lo hi f s D left (x + 1) = nv := ⟨_, rfl⟩
                  have hnle : nv ≤ 236529163129722848 := hnv ▸ nxv_le left _ (by omega)
                  rw [if_pos hins, hnv, if_neg (c := 1 ≤ 1 ∧ x + 1 = x - 1) (by omega), if_neg (c := 2 ≤ 1 ∧ x + 1 = x + 1) (by omega)] at hatE
                  simp only [Nat.add_zero] at hatE
                  have wfv : (Lit.int .i64 (wrap64 ((nv : Int) + ((W lo hi f s x : Nat) : Int)))).wf = true := wrap64_wf _
                  have HPUT := Aside0.mk (HEMj.out.put2 (hEj.isMap) hins (wrap64 ((nv : Int) + ((W lo hi f s x : Nat) : Int))) (by rw [hnv]; unfold wrap64; omega))
                  have HMJ := Aside0.mk hmj
                  have hmx : mj < maxLen := by unfold maxLen; omega
                  have n1 : some b ≠ some b2 := fun e => by have := Option.some.inj e; omega
                  have n2 : some (b2 + 1) ≠ some b2 := fun e => by have := Option.some.inj e; omega
                  have n3 : some gb ≠ some b2 := fun e => by have := Option.some.inj e; omega
                  have l1 : B0 < w1.heap.size := by omega
                  clear hins hnv HEMj hcle hnle hxr hxb hmj hmE hm60 hm hlt
                  go_wp2_with (first | (go_at_call 64; refine (inside_calls B0 (x + 1) lo hi _ ((HBj.out.cell (p := ⟨B0, 0, none⟩) l1).trans hlo) ((HBj.out.cell (p := ⟨B0 + 1, 0, none⟩) hsz).trans hhi)).mono ?_; rintro e w5 ⟨rfl, rfl⟩) | (at_lookup; go_loud (refine wpList_lookup_own_int _ rfl _ _ 65 rfl 3 3 .i64 (int_keyed Tryd.underlying3) Tryd.underlying65 Tryd.underlying3 (by kernel_rfl) b2 _ Ej rfl hEj _ _ rfl (keyOf_int_mk Tryd.underlying3 wfx) ?_; intro c0 hat0 hwc0; rw [hatE] at hat0; cases hat0; clear hwc0)) | (at_mapUpdate; go_loud (refine wpList_mapUpdate_own _ rfl _ _ _ 65 rfl 3 3 (int_keyed Tryd.underlying3) Tryd.underlying65 _ b2 _ Ej rfl hEj hmx _ _ _ rfl rfl (keyOf_int_mk Tryd.underlying3 wfx) _ [] (plainElem_int Tryd.underlying3 wfv) ?_; intro w6 hE6 hg6; have hrg6 := hrgj.kept hg6 n1 n2; have HB6 := Aside0.mk (HBj.out.grown hg6 HBj.out.size (fun k hk => by cases hk; exact hb2)); have h06 := (World.cell?_of_block (hg6.block gb hgj n3)).trans hc0j; have h16 := (World.cell?_of_block (hg6.block gb hgj n3)).trans hc1j; have hs6 := hg6.size; clear hrgj hg6 hEj HBj hc0j hc1j)) | go_in)
                  go_roundg qj
                  case measure => omega
                  case rel => exact ⟨2, _, mj + 1, rfl, by omega, hrg6, by have := HMJ.out; omega, hE6, HPUT, HB6, h06, h16, by omega⟩
                · have hins2 : (decide (lo ≤ (x + 1)) && decide ((x + 1) ≤ hi)) = false := by
                    by_cases c : lo ≤ (x + 1)
                    · rw [decide_eq_false (show ¬ (x + 1) ≤ hi from fun h => hins ⟨c, h⟩)]; simp
                    · rw [decide_eq_false c]; rfl
                  have l1 : B0 < w1.heap.size := by omega
                  have HSK := Aside0.mk (HEMj.out.skip2 hins)
                  clear hins HEMj
                  go_wp2_with (first | (go_at_call 64; refine (inside_calls B0 (x + 1) lo hi _ ((HBj.out.cell (p := ⟨B0, 0, none⟩) l1).trans hlo) ((HBj.out.cell (p := ⟨B0 + 1, 0, none⟩) hsz).trans hhi)).mono ?_; rintro e w5 ⟨rfl, rfl⟩))
                  go_roundg qj
                  case measure => omega
                  case rel => exact ⟨2, Ej, mj, rfl, by omega, hrgj, by omega, hEj, HSK, HBj, hc0j, hc1j, hgj⟩
              · -- both places are done
                obtain rfl : gk = 0 := by omega
                have HNX := Aside0.mk (HEMj.out.next hasx hlx 0)
                clear HEMj hc0j hc1j
                go_wp2
                go_roundg cnt1
                case measure => omega
                case rel => exact ⟨_, Ej, mj, hrgj, by omega, hEj, HNX, HBj, by omega⟩
      · obtain rfl : gk = 0 := by omega
        obtain rfl : s = n := by omega
        have hle : decide ((s : Int) < (s : Int)) = false := decide_eq_false (by omega)
        have wft : (Lit.int .i64 t).wf = true := WalkArith.wf_i64 (by have := HF.out; omega)
        have hatF := HWR.out.at_ t
        go_wp2_with (first | (at_lookup; go_loud (refine wpList_lookup_own_int _ rfl _ _ 65 rfl 3 3 .i64 (int_keyed Tryd.underlying3) Tryd.underlying65 Tryd.underlying3 (by kernel_rfl) b _ D rfl hown _ _ rfl (keyOf_int_mk Tryd.underlying3 wft) ?_; intro c0 hat0 hwc0; rw [hatF] at hat0; cases hat0; clear hwc0)) | go_in)
        go_ret2
        exact ⟨rfl, HB0.out.trans (HBw.out.mono HB0.out.size)⟩
def twR (a0 a1 a2 a3 a4 : Int) : Int × Int := if a0 < 0 ∨ a0 > 60 ∨ (farW a1 || farW a2 || farW a3 || farW a4) = true then (0, 2) else (((W a3 a4 a1 a0.toNat a2 : Nat) : Int), 0)
def till_Within.f (a0 a1 a2 a3 a4 : Int) : Option (Int × Int) := some (twR a0 a1 a2 a3 a4)
set_option maxRecDepth 100000 in
theorem till_Within.calls (a0 a1 a2 a3 a4 : Int) (r1 r2 : Int) (w : World) (h : till_Within.f a0 a1 a2 a3 a4 = some (r1, r2)) :
    Calls Tryd.prog 35 #[.int .i64 a0, .int .i64 a1, .int .i64 a2, .int .i64 a3, .int .i64 a4] w fun e w' => e = .returned (.tuple #[.int .i64 r1, .int .i64 r2]) ∧ Below w.heap.size w w' := by
  unfold till_Within.f at h
  replace h := Option.some.inj h
  unfold twR at h
  by_cases c0 : a0 < 0
  · rw [if_pos (.inl c0)] at h
    simp only [Prod.mk.injEq] at h
    obtain ⟨rfl, rfl⟩ := h
    have d1 : decide (a0 < 0) = true := decide_eq_true c0
    clear c0
    go_enter Tryd.func35, Tryd.ntmps35
    go_wp2
    go_ret2
    exact ⟨rfl, below_alloc (below_alloc (Below.refl _ _) _) _⟩
  · by_cases c1 : a0 > 60
    · rw [if_pos (.inr (.inl c1))] at h
      simp only [Prod.mk.injEq] at h
      obtain ⟨rfl, rfl⟩ := h
      have d1 : decide (a0 < 0) = false := decide_eq_false c0
      have d2 : decide (60 < a0) = true := decide_eq_true c1
      clear c0 c1
      go_enter Tryd.func35, Tryd.ntmps35
      go_wp2
      go_ret2
      exact ⟨rfl, below_alloc (below_alloc (Below.refl _ _) _) _⟩
    · by_cases c2 : (farW a1 || farW a2 || farW a3 || farW a4) = true
      · rw [if_pos (.inr (.inr c2))] at h
        simp only [Prod.mk.injEq] at h
        obtain ⟨rfl, rfl⟩ := h
        have d1 : decide (a0 < 0) = false := decide_eq_false c0
        have d2 : decide (60 < a0) = false := decide_eq_false c1
        have hcf : Pw.slices_ContainsFunc_int_int.f 6 [a1, a2, a3, a4] = some true := by rw [contains4, c2]
        clear c0 c1 c2
        go_enter Tryd.func35, Tryd.ntmps35
        go_wp2_with (first | (go_at_call 62; go_loud (refine (Pw.slices_ContainsFunc_int_int.calls 6 (some ⟨w.heap.size + 1 + 1, 0, none⟩) 4 [a1, a2, a3, a4] true _ (four_C w a1 a2 a3 a4) (Nat.le_refl 4) hcf).mono ?_; rintro e w1 ⟨rfl, ⟨nd, hw1⟩⟩; obtain ⟨_, _, HB0, _⟩ := four_after w a1 a2 a3 a4 nd; rw [← hw1] at HB0; clear hw1)))
        go_ret2
        exact ⟨rfl, HB0⟩
      · rw [if_neg (by rintro (h1 | h1 | h1); exact c0 h1; exact c1 h1; exact c2 h1)] at h
        simp only [Prod.mk.injEq] at h
        obtain ⟨rfl, rfl⟩ := h
        have hf : farW a1 = false ∧ farW a2 = false ∧ farW a3 = false ∧ farW a4 = false := by
          cases h1 : farW a1 <;> cases h2 : farW a2 <;> cases h3 : farW a3 <;> cases h4 : farW a4 <;> simp [h1, h2, h3, h4] at c2 ⊢
        have := within_main a0.toNat a1 a2 a3 a4 (by omega) hf.1 hf.2.1 hf.2.2.1 hf.2.2.2 w
        rw [show ((a0.toNat : Nat) : Int) = a0 by omega] at this
        exact this

end Go.Proofs.YtnjimbgfafkogaaDoor.Hand
