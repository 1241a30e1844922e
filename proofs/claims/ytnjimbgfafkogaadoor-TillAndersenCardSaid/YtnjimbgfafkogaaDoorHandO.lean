import Derived.Test.YtnjimbgfafkogaaDoorProg
import Derived.Below
import Derived.Deep.Draws
import Derived.Deep.AppendLies
import Derived.Maps.AppendAt
import Derived.OwnWalk
import Derived.Laws.BytesArg
import Derived.Laws.MakeOwn
import Derived.Laws.OwnMore
import Derived.Deep.OwnRows
import Derived.Tactics
import Derived.Lib.ConvBytes
import Derived.Laws.Slices
import Derived.WalkKit
import Derived.KernelRfl
import Derived.RowKit3
import Derived.Deep.LoopGhost
import Derived.Deep.QuietTactic
import Derived.BigQuiet
import Derived.WideLaws
import Derived.Deep.DeepCutAuto
import Derived.Deep.CutBlock
import Derived.Deep.RegionHeld3
import Derived.Laws.Rows
import Derived.Lib.AppendStr
import Derived.ArgAppend
import Derived.Laws.IdiomCopy
import Derived.OrdersHeld
import Derived.Laws.BitsLemmas
import Derived.RowKit
import Derived.Test.YtnjimbgfafkogaaDoorWWords
import Derived.Test.YtnjimbgfafkogaaDoorWLast
import Derived.Test.YtnjimbgfafkogaaDoorWTab
import Derived.Test.YtnjimbgfafkogaaDoorWFour
import Derived.Test.YtnjimbgfafkogaaDoorWQPut
import Derived.Test.YtnjimbgfafkogaaDoorWApart
import Derived.Test.YtnjimbgfafkogaaDoorWArr
import Derived.Test.YtnjimbgfafkogaaDoorWZeros
import Derived.Test.YtnjimbgfafkogaaDoorWFoot
import Derived.Test.YtnjimbgfafkogaaDoorWKept
import Derived.Test.YtnjimbgfafkogaaDoorWShare
import Derived.Test.YtnjimbgfafkogaaDoorWN
import Derived.Test.YtnjimbgfafkogaaDoorWFootNe
import Derived.Test.YtnjimbgfafkogaaDoorWAt
import Derived.Test.YtnjimbgfafkogaaDoorWEqStruct
import Derived.Test.YtnjimbgfafkogaaDoorWRepsOne
import Derived.Test.YtnjimbgfafkogaaDoorWInv
import Derived.Test.YtnjimbgfafkogaaDoorWInvWords
import Derived.Test.YtnjimbgfafkogaaDoorWGuard
import Derived.Test.YtnjimbgfafkogaaDoorWNEv
import Derived.Test.YtnjimbgfafkogaaDoorWMore
import Derived.Test.YtnjimbgfafkogaaDoorEvK
import Derived.Test.YtnjimbgfafkogaaDoorHandD
import Derived.ArgAppend
import Derived.Deep.RegionLawGrows
import Derived.Laws.BitsLemmas
namespace Go.Proofs.YtnjimbgfafkogaaDoor.Hand
open Go.RowKit Go.Proofs.YtnjimbgfafkogaaDoorW.PrintWords Go.Proofs.YtnjimbgfafkogaaDoorW.PrintLast Go.Proofs.YtnjimbgfafkogaaDoorW.PrintMore
set_option linter.unusedVariables false
set_option linter.unusedSimpArgs false

/-! The reference's orders, counted. -/
open Go.Proofs.YtnjimbgfafkogaaDoor.Math Go.Proofs.YtnjimbgfafkogaaDoor.Pure Go.Proofs.YtnjimbgfafkogaaDoor.Hi Go.Proofs.YtnjimbgfafkogaaDoor.Pre Go.Proofs.YtnjimbgfafkogaaDoor.Base
def tabV (g : Nat → Nat) (m : Nat) : Array Value := ((List.range m).map fun j => Value.int .i64 ((g j : Nat) : Int)).toArray
def cnt (f : List Int → Nat) (g : Nat → Nat) (ws : List (List Int)) : Nat → Nat := fun j => g j + ws.countP (fun w => f w == j)
theorem cnt_nil (f : List Int → Nat) (g : Nat → Nat) : cnt f g [] = g := by funext j; simp [cnt]
theorem cnt_append (f : List Int → Nat) (g : Nat → Nat) (a b : List (List Int)) : cnt f g (a ++ b) = cnt f (cnt f g a) b := by funext j; simp only [cnt, List.countP_append]; omega
theorem cnt_le (f : List Int → Nat) (g : Nat → Nat) (ws : List (List Int)) (j : Nat) : cnt f g ws j ≤ g j + ws.length := by have : ws.countP (fun w => f w == j) ≤ ws.length := List.countP_le_length; unfold cnt; omega
theorem tabV_get (g : Nat → Nat) {m j : Nat} (h : j < m) : (tabV g m)[j]? = some (.int .i64 ((g j : Nat) : Int)) := by simp [tabV, h]
theorem tabV_set (f : List Int → Nat) (g : Nat → Nat) (m : Nat) (w : List Int) : (tabV g m).setIfInBounds (f w) (.int .i64 (((g (f w) + 1 : Nat)) : Int)) = tabV (cnt f g [w]) m := by
  apply Array.ext_getElem?
  intro j
  rw [Array.getElem?_setIfInBounds]
  by_cases h : j < m
  · rw [tabV_get _ h]
    by_cases e : f w = j
    · subst e
      rw [if_pos rfl, if_pos (by simp [tabV, h]), tabV_get _ h]
      simp [cnt]
    · rw [if_neg e, tabV_get _ h]
      have : cnt f g [w] j = g j := by simp [cnt, e]
      rw [this]
  · have e1 : (tabV (cnt f g [w]) m)[j]? = none := by simp [tabV]; omega
    have e2 : (tabV g m)[j]? = none := by simp [tabV]; omega
    rw [e1, e2]
    split
    · rw [if_neg (by simp [tabV]; omega)]
    · rfl
def remF (u : Nat) : Nat → List Int → List Int
  | _, [] => []
  | i, x :: t => if u.testBit i = true then remF u (i + 1) t else x :: remF u (i + 1) t
theorem remF_append (u : Nat) (b : List Int) : ∀ (a : List Int) (i : Nat), remF u i (a ++ b) = remF u i a ++ remF u (i + a.length) b
  | [], i => rfl
  | x :: t, i => by
    rw [List.cons_append, remF, remF, remF_append u b t (i + 1), List.length_cons, show i + 1 + t.length = i + (t.length + 1) by omega]
    split <;> simp
theorem remF_congr {u v : Nat} : ∀ (l : List Int) (i : Nat), (∀ j, i ≤ j → j < i + l.length → u.testBit j = v.testBit j) → remF u i l = remF v i l
  | [], _, _ => rfl
  | x :: t, i, h => by
    rw [remF, remF, h i (Nat.le_refl _) (by simp), remF_congr t (i + 1) (fun j h1 h2 => h j (by omega) (by rw [List.length_cons]; omega))]
theorem remF_split (u : Nat) (l : List Int) (i : Nat) (h : i < l.length) : remF u 0 l = remF u 0 (l.take i) ++ ((if u.testBit i = true then [] else [l[i]]) ++ remF u (i + 1) (l.drop (i + 1))) := by
  have e : l = l.take i ++ (l[i] :: l.drop (i + 1)) := by rw [← List.drop_eq_getElem_cons h, List.take_append_drop]
  have hl : (l.take i).length = i := by rw [List.length_take]; omega
  conv => lhs; rw [e]
  rw [remF_append, hl, Nat.zero_add, remF]
  split <;> simp
theorem remF_take (u : Nat) (l : List Int) (i : Nat) (h : i < l.length) : remF u 0 (l.take (i + 1)) = remF u 0 (l.take i) ++ (if u.testBit i = true then [] else [l[i]]) := by
  have hl : (l.take i).length = i := by rw [List.length_take]; omega
  rw [List.take_add_one, List.getElem?_eq_getElem h, remF_append, hl, Nat.zero_add]
  simp only [Option.toList_some, remF]
theorem bit_or (u i j : Nat) : (u ||| 2 ^ i).testBit j = (u.testBit j || decide (i = j)) := by rw [Nat.testBit_or, Nat.testBit_two_pow]
theorem remF_used (u : Nat) (l : List Int) (i : Nat) (h : i < l.length) (hu : u.testBit i = false) : remF (u ||| 2 ^ i) 0 l = (remF u 0 l).eraseIdx (remF u 0 (l.take i)).length ∧ (remF u 0 l).getD (remF u 0 (l.take i)).length 0 = l[i] ∧ (remF u 0 (l.take i)).length < (remF u 0 l).length := by
  have h1 := remF_split u l i h
  have h2 := remF_split (u ||| 2 ^ i) l i h
  rw [hu, if_neg (by decide)] at h1
  rw [if_pos (by rw [bit_or]; simp), List.nil_append] at h2
  have e1 : remF (u ||| 2 ^ i) 0 (l.take i) = remF u 0 (l.take i) := remF_congr _ _ (fun j _ h2 => by
    rw [List.length_take] at h2
    rw [bit_or, decide_eq_false (by omega), Bool.or_false])
  have e2 : remF (u ||| 2 ^ i) (i + 1) (l.drop (i + 1)) = remF u (i + 1) (l.drop (i + 1)) := remF_congr _ _ (fun j h1 _ => by
    rw [bit_or, decide_eq_false (by omega), Bool.or_false])
  rw [h2, e1, e2, h1]
  refine ⟨?_, ?_, ?_⟩
  · rw [List.eraseIdx_append_of_length_le (Nat.le_refl _), Nat.sub_self]; rfl
  · simp [List.getD_eq_getElem?_getD]
  · simp
theorem or_small (a b : Nat) (ha : a < 256) (hb : b < 256) : bits .or .i64 (a : Int) (b : Int) = ((a ||| b : Nat) : Int) :=
  (bits_nat .i64 8 (by decide) (fun n h1 h2 => by rw [IntKind.wrap_i64]; have : n < 256 := h2; omega) a b ha hb).2
structure OrdSt (w0 : World) (bm bf n : Nat) (w : World) (g h : Nat → Nat) : Prop where
  below : Below w0.heap.size w0 w
  hm : w.heap[bm]? = some (.cells (tabV g n) 3)
  hf : w.heap[bf]? = some (.cells (tabV h n) 3)
structure OrdKp (bm bf : Nat) (w w' : World) : Prop where
  size : w.heap.size ≤ w'.heap.size
  block : ∀ j, j < w.heap.size → j ≠ bm → j ≠ bf → w'.heap[j]? = w.heap[j]?
theorem OrdKp.refl (bm bf : Nat) (w : World) : OrdKp bm bf w w := ⟨Nat.le_refl _, fun _ _ _ _ => rfl⟩
theorem OrdKp.trans {bm bf : Nat} {w w1 w2 : World} (h : OrdKp bm bf w w1) (k : OrdKp bm bf w1 w2) : OrdKp bm bf w w2 := ⟨Nat.le_trans h.size k.size, fun j hj h1 h2 => (k.block j (Nat.lt_of_lt_of_le hj h.size) h1 h2).trans (h.block j hj h1 h2)⟩
theorem OrdKp.below {bm bf : Nat} {w w1 : World} (hb : Below w.heap.size w w1) : OrdKp bm bf w w1 := ⟨hb.size, fun j hj _ _ => hb.5 j hj⟩
theorem OrdSt.keep {w0 w w1 : World} {bm bf n : Nat} {g h : Nat → Nat} (hs : OrdSt w0 bm bf n w g h) (hb : Below w.heap.size w w1) : OrdSt w0 bm bf n w1 g h :=
  ⟨hs.below.trans (hb.mono hs.below.size), (hb.5 _ (Array.getElem?_eq_some_iff.1 hs.hm).1).trans hs.hm, (hb.5 _ (Array.getElem?_eq_some_iff.1 hs.hf).1).trans hs.hf⟩
set_option maxHeartbeats 1000000 in
set_option maxRecDepth 100000 in
theorem orders1 (w0 : World) (A0 : Option Addr) (c0 : Nat) (l : List Int) (hr0 : Kd.C (Kd.int .i64) w0 A0 l.length l) (hc0 : l.length ≤ c0) (hl : l.length ≤ 8) (hb : ∀ x ∈ l, -1000000 ≤ x ∧ x ≤ 1000000)
    (bm bf : Nat) (hbm : w0.heap.size ≤ bm) (hbf : w0.heap.size ≤ bf) (hbn : bm ≠ bf) (m : Nat) : ∀ (y : List Int) (vy : Value) (p : Option Addr) (c u : Nat) (g h : Nat → Nat) (w : World), y.length + m = l.length → (remF u 0 l).length = m → u < 2 ^ l.length →
    (∀ x ∈ y, -1000000 ≤ x ∧ x ≤ 1000000) → (∀ j, g j + fact m ≤ 1000000 ∧ h j + fact m ≤ 1000000) → OrdSt w0 bm bf (l.length + 1) w g h → vy = .slice p y.length c → w.ownsRow w0.heap.size 3 1 vy y.length (nums .i64 y) → (∀ j, vy.ownBlock = some j → j ≠ bm ∧ j ≠ bf) →
    Calls Tryd.prog 71 #[.slice A0 l.length c0, .slice p y.length c, .int .i64 (u : Int), .slice (some ⟨bm, 0, none⟩) (l.length + 1) (l.length + 1), .slice (some ⟨bf, 0, none⟩) (l.length + 1) (l.length + 1)] w fun e w' => e = .returned (.tuple #[]) ∧
      OrdSt w0 bm bf (l.length + 1) w' (cnt (pos 0) g ((gen (fun l i => l.eraseIdx i) m (remF u 0 l)).map (y ++ ·))) (cnt fst h ((gen (fun l i => l.eraseIdx i) m (remF u 0 l)).map (y ++ ·))) ∧ OrdKp bm bf w w' := by
  induction m with
  | zero =>
    intro y vy p c u g h w hm hr hu hby hgh hS hvy hY hne
    subst hvy
    obtain ⟨A, c', he, hc, hC⟩ := C_of_own hY rfl
    cases he
    have hlen : (y.length : Int) = (l.length : Int) := by omega
    obtain ⟨k, hk⟩ := Ev.rounds (ev_ahead y (by omega) hby)
    have hah := fun w h1 => pomaderef09_ahead.calls k p c y _ _ _ w h1 hc hk
    have hgen : (gen (fun l i => l.eraseIdx i) 0 (remF u 0 l)).map (y ++ ·) = [y] := by simp [gen]
    rw [hgen]
    have hpl := pos_le y 0
    have hfl := fst_le y
    have hx1 : ((pos 0 y : Nat) : Int) < (l.length : Int) + 1 := by omega
    have hx2 : ((fst y : Nat) : Int) < (l.length : Int) + 1 := by omega
    have hcm : w.cell? ⟨bm, pos 0 y, none⟩ = some (.int .i64 ((g (pos 0 y) : Nat) : Int)) := by
      simp only [World.cell?, hS.hm]
      exact tabV_get g (by omega)
    have hcf : w.cell? ⟨bf, fst y, none⟩ = some (.int .i64 ((h (fst y) : Nat) : Int)) := by
      simp only [World.cell?, hS.hf]
      exact tabV_get h (by omega)
    have hcf2 : ∀ v, (w.setCell ⟨bm, pos 0 y, none⟩ v).cell? ⟨bf, fst y, none⟩ = some (.int .i64 ((h (fst y) : Nat) : Int)) := fun v => (World.cell?_of_block (Below.heap_setCell _ _ _ _ hbn.symm)).trans hcf
    have hfm : w.frozen? ⟨bm, pos 0 y, none⟩ = false := by simp only [World.frozen?, hS.hm]; rfl
    have hff : w.frozen? ⟨bf, fst y, none⟩ = false := by simp only [World.frozen?, hS.hf]; rfl
    have g1 := (hgh (pos 0 y)).1
    have g2 := (hgh (fst y)).2
    have hw1 : wrap64 ((g (pos 0 y) : Int) + 1) = ((g (pos 0 y) + 1 : Nat) : Int) := by rw [w64 (by omega)]; omega
    have hw2 : wrap64 ((h (fst y) : Int) + 1) = ((h (fst y) + 1 : Nat) : Int) := by rw [w64 (by omega)]; omega
    have hfin : ∀ nd, OrdSt w0 bm bf (l.length + 1) ((((w.drewN nd).setCell ⟨bm, pos 0 y, none⟩ (.int .i64 ((g (pos 0 y) : Int) + 1))).setCell ⟨bf, fst y, none⟩ (.int .i64 ((h (fst y) : Int) + 1)))) (cnt (pos 0) g [y]) (cnt fst h [y]) ∧ OrdKp bm bf w ((((w.drewN nd).setCell ⟨bm, pos 0 y, none⟩ (.int .i64 ((g (pos 0 y) : Int) + 1))).setCell ⟨bf, fst y, none⟩ (.int .i64 ((h (fst y) : Int) + 1)))) := by
      intro nd
      have e1 : ((g (pos 0 y) : Int) + 1) = ((g (pos 0 y) + 1 : Nat) : Int) := by omega
      have e2 : ((h (fst y) : Int) + 1) = ((h (fst y) + 1 : Nat) : Int) := by omega
      rw [e1, e2]
      have hm' : (w.drewN nd).heap[bm]? = some (.cells (tabV g (l.length + 1)) 3) := hS.hm
      have hf' : (w.drewN nd).heap[bf]? = some (.cells (tabV h (l.length + 1)) 3) := hS.hf
      refine ⟨⟨((pw_below_drewN hS.below nd).setCell (by exact hbm) _).setCell (by exact hbf) _, ?_, ?_⟩, ⟨by rw [World.size_setCell, World.size_setCell]; exact Nat.le_refl _, fun j hj n1 n2 => ?_⟩⟩
      · rw [Below.heap_setCell _ _ _ _ hbn, heap_setCell_same _ _ _ _ _ _ hm', tabV_set (pos 0) g]
      · rw [heap_setCell_same _ _ _ (tabV h (l.length + 1)) 3 _ ((Below.heap_setCell _ _ _ _ hbn.symm).trans hf'), tabV_set fst h]
      · rw [Below.heap_setCell _ _ _ _ n2, Below.heap_setCell _ _ _ _ n1]; rfl
    have HF := Aside0.mk hfin
    have HS := Aside0.mk hS
    have HC := Aside0.mk hC
    clear hS hC hY hgen hk hfin g1 g2
    go_enter Tryd.func71, Tryd.ntmps71
    go_wp2_with (first | (go_at_call 70; refine (hah _ HC.out).mono ?_; rintro e w1 ⟨rfl, ⟨nd, rfl⟩⟩))
    ((try simp only [Exit.inBlock, Exit.then]); refine bodyPost_ret (results_none rfl _ _ _) rfl ?_)
    exact ⟨rfl, HF.out nd⟩
  | succ m ih =>
    intro y vy p c u g h w hm hr hu hby hgh hS hvy hY hne
    subst hvy
    have hlen : ((y.length : Int) == (l.length : Int)) = false := beq_eq_false_iff_ne.2 (by omega)
    have HS := Aside0.mk hS
    have HY := Aside0.mk hY
    clear hS hY
    go_enter Tryd.func71, Tryd.ntmps71
    obtain ⟨rem, hrem⟩ : ∃ rem, remF u 0 l = rem := ⟨_, rfl⟩
    rw [hrem] at hr
    obtain ⟨r, hrd⟩ : ∃ r : Nat → Nat, ∀ i, r i = (remF u 0 (l.take i)).length := ⟨_, fun _ => rfl⟩
    obtain ⟨D, hD⟩ : ∃ D : Nat → List (List Int), ∀ q, D q = ((List.range q).flatMap fun q => (gen (fun l i => l.eraseIdx i) m (rem.eraseIdx q)).map (rem.getD q 0 :: ·)).map (y ++ ·) := ⟨_, fun _ => rfl⟩
    have info3 : (Tryd.prog.info? 3).map (fun i => (i.zero, i.size, i.bytes)) = some (some (.int .i64 0), 1, 8) := by kernel_rfl
    obtain ⟨i0, hi, hz0, hz1, hz2⟩ := info_parts info3
    have HR := Aside0.mk hrd
    have HD := Aside0.mk hD
    have HRem := Aside0.mk hrem
    have HGH := Aside0.mk hgh
    have HBY := Aside0.mk hby
    have HIH := Aside0.mk ih
    have HR0 := Aside0.mk hr0
    have HB0 := Aside0.mk hb
    clear hrd hD hrem hgh hby ih hr0 hb
    go_wp2
    go_loopg [13] l.length (fun q v13 wr => ∃ (i : Nat), v13 = .int .i64 (i : Int) ∧ i + q = l.length ∧ Aside0 (OrdSt w0 bm bf (l.length + 1) wr (cnt (pos 0) g (D (r i))) (cnt fst h (D (r i)))) ∧ Aside0 (OrdKp bm bf w wr))
    case atStart =>
      refine ⟨0, rfl, by omega, ⟨?_⟩, ⟨OrdKp.refl _ _ _⟩⟩
      have e : D (r 0) = [] := by rw [HR.out, HD.out]; rfl
      rw [e, cnt_nil, cnt_nil]
      exact HS.out
    case round =>
      obtain ⟨i, rfl, hiq, HS1, HK1⟩ := hrel
      by_cases hq : gk = 0
      · subst hq
        obtain rfl : i = l.length := by omega
        have hd : ¬ ((l.length : Int) < (l.length : Int)) := by omega
        have e : D (r l.length) = (gen (fun l i => l.eraseIdx i) (m + 1) (remF u 0 l)).map (y ++ ·) := by
          rw [HR.out, HD.out, List.take_length, HRem.out]; rfl
        rw [e] at HS1
        go_wp2
        ((try simp only [Exit.inBlock, Exit.then]); refine bodyPost_end (results_none rfl _ _ _) rfl ?_)
        exact ⟨rfl, HS1.out, HK1.out⟩
      · obtain ⟨q, rfl⟩ : ∃ q, gk = q + 1 := ⟨gk - 1, by omega⟩
        have hi1 : i < l.length := by omega
        have hd : (i : Int) < (l.length : Int) := by omega
        have hbit : ((u : Int) / 2 ^ i).tmod 2 = ((u / 2 ^ i % 2 : Nat) : Int) := by
          rw [Int.tmod_eq_emod_of_nonneg (Int.ediv_nonneg (by omega) (by exact Int.le_of_lt (Int.pow_pos (by decide))))]
          push_cast
          rfl
        cases hu1 : u.testBit i with
        | true =>
          have hb2 : ((u : Int) / 2 ^ i).tmod 2 = 1 := by
            rw [Nat.testBit_eq_decide_div_mod_eq] at hu1
            rw [hbit, of_decide_eq_true hu1]; rfl
          have hri : r (i + 1) = r i := by rw [HR.out, HR.out, remF_take u l i hi1, hu1, if_pos rfl, List.append_nil]
          clear hbit
          go_wp2
          go_roundg q
          case measure => omega
          case rel => exact ⟨i + 1, by go_num, by omega, by rw [hri]; exact HS1, HK1⟩
        | false =>
          have hb2 : ((u : Int) / 2 ^ i).tmod 2 = 0 := by
            rw [Nat.testBit_eq_decide_div_mod_eq] at hu1
            have := of_decide_eq_false hu1
            rw [hbit, show u / 2 ^ i % 2 = 0 by omega]; rfl
          clear hbit
          have hbm1 := (Array.getElem?_eq_some_iff.1 HS1.out.hm).1
          have hbf1 := (Array.getElem?_eq_some_iff.1 HS1.out.hf).1
          obtain ⟨hU1, hU2, hU3⟩ := remF_used u l i hi1 hu1
          rw [HRem.out, ← HR.out] at hU1 hU2 hU3
          have hri : r (i + 1) = r i + 1 := by
            rw [HR.out, HR.out, remF_take u l i hi1, hu1, if_neg (by decide), List.length_append]; rfl
          have hDn : D (r i + 1) = D (r i) ++ ((gen (fun l i => l.eraseIdx i) m (rem.eraseIdx (r i))).map ((y ++ [l[i]]) ++ ·)) := by
            rw [HD.out, HD.out, List.range_succ, List.flatMap_append, List.map_append, List.flatMap_singleton, hU2, List.map_map]
            congr 1
            refine List.map_congr_left fun z _ => ?_
            simp
          have hlenD : (D (r i)).length ≤ r i * fact m := by
            rw [HD.out, List.length_map]
            have hfl : ∀ (L : List Nat), (∀ q ∈ L, q < rem.length) → (L.flatMap fun q => (gen (fun l i => l.eraseIdx i) m (rem.eraseIdx q)).map (rem.getD q 0 :: ·)).length ≤ L.length * fact m := by
              intro L
              induction L with
              | nil => intro _; simp
              | cons q L ihL =>
                intro hL
                have h1 := hL q (by simp)
                have h2 := ihL (fun z hz => hL z (by simp [hz]))
                rw [List.flatMap_cons, List.length_append, List.length_map, gen_length takes_plain m (rem.eraseIdx q) (by rw [List.length_eraseIdx_of_lt h1]; omega), List.length_cons, Nat.succ_mul]
                omega
            have := hfl (List.range (r i)) (fun q hq => by have := List.mem_range.1 hq; omega)
            rwa [List.length_range] at this
          have hfac : r i * fact m + fact m ≤ fact (m + 1) := by
            rw [fact, ← Nat.succ_mul]
            exact Nat.mul_le_mul_right _ (by omega)
          have hstep : ∀ (W w2 : World) (v2 : Value), Below wr.heap.size wr W → w2.ownsRow W.heap.size 3 1 v2 (y.length + 1) (nums .i64 y ++ [.int .i64 (rd l (i : Int))]) → W.grownBy w2 none →
              Calls Tryd.prog 71 #[.slice A0 l.length c0, v2, .int .i64 ((u ||| 2 ^ i : Nat) : Int), .slice (some ⟨bm, 0, none⟩) (l.length + 1) (l.length + 1), .slice (some ⟨bf, 0, none⟩) (l.length + 1) (l.length + 1)] w2 fun e w' => e = .returned (.tuple #[]) ∧
                Aside0 (OrdSt w0 bm bf (l.length + 1) w' (cnt (pos 0) g (D (r (i + 1)))) (cnt fst h (D (r (i + 1))))) ∧ Aside0 (OrdKp bm bf w w') := by
            intro W w2 v2 hbW hown2 hgrow2
            have e1 : nums .i64 y ++ [Value.int .i64 (rd l (i : Int))] = nums .i64 (y ++ [l[i]]) := by rw [rd_get hi1]; simp [nums]
            rw [e1] at hown2
            have e2 : (y ++ [l[i]]).length = y.length + 1 := by simp
            obtain ⟨A, c', rfl, hc', _⟩ := C_of_own hown2 e2
            have hb2 : Below wr.heap.size wr w2 := pw_below_grown hbW none hbW.size hgrow2 (fun k hk => by cases hk)
            have hsz := hbW.size
            have := HIH.out (y ++ [l[i]]) (.slice A (y ++ [l[i]]).length c') A c' (u ||| 2 ^ i) _ _ w2 (by rw [e2]; omega) (by rw [hU1, List.length_eraseIdx_of_lt hU3]; omega)
              (Nat.or_lt_two_pow hu (Nat.pow_lt_pow_right (by decide) hi1)) (fun x hx => by
                rw [List.mem_append, List.mem_singleton] at hx
                rcases hx with hx | rfl
                · exact HBY.out x hx
                · exact HB0.out _ (List.getElem_mem hi1))
              (fun j => by
                have h1 := HGH.out j
                have h2 := cnt_le (pos 0) g (D (r i)) j
                have h3 := cnt_le fst h (D (r i)) j
                omega) (HS1.out.keep hb2) rfl (by rw [e2]; exact own_less hown2 (by have := HS1.out.below.size; omega)) (fun j hj => by
                have h2 := own_base hown2 j (by rw [← e2]; exact hj)
                omega)
            rw [e2] at this
            refine this.mono ?_
            rintro e w3 ⟨rfl, hS3, hK3⟩
            refine ⟨rfl, ⟨?_⟩, ⟨HK1.out.trans ((OrdKp.below hb2).trans hK3)⟩⟩
            rw [hri, hDn, cnt_append, cnt_append]
            rw [hU1] at hS3
            exact hS3
          have hYr := own_move HY.out (w1 := wr) (fun k hk => HK1.out.block k (by
            obtain ⟨cells, hh⟩ := own_typed HY.out k hk
            exact (Array.getElem?_eq_some_iff.1 hh).1) (hne k hk).1 (hne k hk).2)
          obtain ⟨A, c', he, hc, hC⟩ := C_of_own hYr rfl
          cases he
          obtain ⟨al, hal, hxl⟩ := Kd.at_int (Kd.C_below HR0.out HS1.out.below) (i : Int) (by omega) (by omega)
          rw [Int.toNat_natCast] at hxl
          have hcells : ∀ (o : Obj) (b : Addr), p = some b → ∀ j v, (nums .i64 y)[j]? = some v → (wr.alloc o).cell? (b.add j) = some v := by
            intro o b hb j v hj
            have := cells_of_C hC b hb j v hj
            rw [← this]
            refine World.cell?_of_block (Below.heap_alloc _ _ _ ?_)
            exact World.block_lt_of_cell? wr _ this
          have HA := Aside0.mk hcells
          have hy63 : y.length + 1 ≤ maxLen := by unfold maxLen; omega
          have hcap : (y.length + 1) * 8 ≤ 140737488355328 := by omega
          have hln : (nums .i64 y).length = y.length * 1 := by simp [nums]
          have hone : ∀ (v : Value), v ∈ [Value.int .i64 (rd l (i : Int))] → v.oneCell' = true := by intro v hv; simp at hv; subst hv; rfl
          have hnew : ∀ (o : Obj), o = .cells #[.int .i64 (rd l (i : Int))] 3 → ∀ j v, [Value.int .i64 (rd l (i : Int))][j]? = some v → (wr.alloc o).cell? ((⟨wr.heap.size, 0, none⟩ : Addr).add j) = some v := by rintro o rfl; exact cell_one_new _ _ _
          have HN := Aside0.mk hnew
          have HBa : ∀ (o : Obj), Below wr.heap.size wr (wr.alloc o) := fun o => below_alloc (Below.refl _ _) o
          have HBA := Aside0.mk HBa
          have HSTEP := Aside0.mk hstep
          have HU := Aside0.mk hu
          clear hcells hnew HBa hstep hU1 hU2 hU3 hri hDn hlenD hfac hC hYr hu1 hu
          have hwp : IntKind.i64.wrap ((2 : Int) ^ i) = ((2 ^ i : Nat) : Int) := by
            have h1 : 2 ^ i < 2 ^ 8 := Nat.pow_lt_pow_right (by decide) (by omega)
            have h2 : ((2 : Int) ^ i) = ((2 ^ i : Nat) : Int) := by push_cast; rfl
            rw [h2]
            have key : ∀ z : Nat, z < 256 → IntKind.i64.wrap (z : Int) = (z : Int) := fun z hz => by rw [IntKind.wrap_i64]; omega
            exact key _ h1
          have hor : bits .or .i64 (u : Int) (IntKind.i64.wrap ((2 : Int) ^ i)) = ((u ||| 2 ^ i : Nat) : Int) := by
            rw [hwp]
            exact (or_small u (2 ^ i) (by have h1 : 2 ^ l.length ≤ 2 ^ 8 := Nat.pow_le_pow_right (by decide) hl; have := HU.out; omega) (by have h1 : 2 ^ i < 2 ^ 8 := Nat.pow_lt_pow_right (by decide) (by omega); omega))
          clear hwp
          subst hal
          cases p with
          | none =>
            have h0 : y.length = 0 ∧ c = 0 := by
              rcases HY.out.2 with ⟨e, h0⟩ | ⟨g, cap, cur, e, _⟩
              · injection e with e1 e2 e3
                exact ⟨h0, e3⟩
              · injection e with e1
                cases e1
            obtain ⟨h0, rfl⟩ := h0
            obtain rfl : y = [] := List.eq_nil_of_length_eq_zero h0
            clear h0
            go_wp2
            go_region_law (first | (refine step_append_grows rfl (.tmp 54) (.tmp 59) 22 rfl 3 i0 (.int .i64 0) 1 8 Tryd.underlying22 hi hz0 hz1 hz2 rfl (by decide) none 0 0 (nums .i64 []) (by simp [Act.eval, Act.put]) (fun h => ⟨rfl, rfl⟩) rfl (fun b hb => by cases hb) ⟨wr.heap.size, 0, none⟩ 1 1 [.int .i64 (rd l (i : Int))] (by simp [Act.eval, Act.put]) rfl (HN.out _ rfl) hone (by decide) (by decide) (by decide) ?_; intro v2 w2 hown2 hgrow2; have hb4 := Aside0.mk (hown2); have hg4 := Aside0.mk hgrow2; clear hown2 hgrow2) | (go_simp; go_at_call 71; refine (HSTEP.out _ _ _ (by first | exact HBA.out _ | exact below_drew (HBA.out _)) hb4.out hg4.out).mono ?_; rintro e w3 ⟨rfl, HS3, HK3⟩))
            all_goals go_wp2
            all_goals (go_roundg q <;> first | exact ⟨i + 1, by go_num, by omega, HS3, HK3⟩ | omega)
          | some b =>
            go_wp2
            go_region_law (first | (refine step_append_grows rfl (.tmp 54) (.tmp 59) 22 rfl 3 i0 (.int .i64 0) 1 8 Tryd.underlying22 hi hz0 hz1 hz2 rfl (by decide) (some b) y.length y.length (nums .i64 y) (by simp [Act.eval, Act.put]) (fun h => by cases h) hln (HA.out _) ⟨wr.heap.size, 0, none⟩ 1 1 [.int .i64 (rd l (i : Int))] (by simp [Act.eval, Act.put]) rfl (HN.out _ rfl) hone (Nat.lt_succ_self _) hy63 hcap ?_; intro v2 w2 hown2 hgrow2; have hb4 := Aside0.mk (hown2); have hg4 := Aside0.mk hgrow2; clear hown2 hgrow2) | (go_simp; go_at_call 71; refine (HSTEP.out _ _ _ (by first | exact HBA.out _ | exact below_drew (HBA.out _)) hb4.out hg4.out).mono ?_; rintro e w3 ⟨rfl, HS3, HK3⟩))
            all_goals go_wp2
            all_goals (go_roundg q <;> first | exact ⟨i + 1, by go_num, by omega, HS3, HK3⟩ | omega)

end Go.Proofs.YtnjimbgfafkogaaDoor.Hand
