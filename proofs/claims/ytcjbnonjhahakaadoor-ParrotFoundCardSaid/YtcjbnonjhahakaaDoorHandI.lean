import Derived.Test.YtcjbnonjhahakaaDoorProg
import Derived.Below
import Derived.Deep.Draws
import Derived.Deep.AppendLies
import Derived.Maps.AppendAt
import Derived.OwnWalk
import Derived.Laws.BytesArg
import Derived.Laws.MakeOwn
import Derived.Laws.OwnMore
import Derived.Deep.OwnRows
import Derived.Tactics
import Derived.Lib.ConvBytes
import Derived.Laws.Slices
import Derived.WalkKit
import Derived.KernelRfl
import Derived.RowKit3
import Derived.Deep.LoopGhost
import Derived.Deep.QuietTactic
import Derived.BigQuiet
import Derived.WideLaws
import Derived.Deep.DeepCutAuto
import Derived.Deep.CutBlock
import Derived.Deep.RegionHeld3
import Derived.Laws.Rows
import Derived.Lib.AppendStr
import Derived.ArgAppend
import Derived.Laws.IdiomCopy
import Derived.OrdersHeld
import Derived.Laws.BitsLemmas
import Derived.RowKit
import Derived.Test.YtcjbnonjhahakaaDoorWWords
import Derived.Test.YtcjbnonjhahakaaDoorWLast
import Derived.Test.YtcjbnonjhahakaaDoorWTab
import Derived.Test.YtcjbnonjhahakaaDoorWFour
import Derived.Test.YtcjbnonjhahakaaDoorWQPut
import Derived.Test.YtcjbnonjhahakaaDoorWApart
import Derived.Test.YtcjbnonjhahakaaDoorWArr
import Derived.Test.YtcjbnonjhahakaaDoorWZeros
import Derived.Test.YtcjbnonjhahakaaDoorWFoot
import Derived.Test.YtcjbnonjhahakaaDoorWKept
import Derived.Test.YtcjbnonjhahakaaDoorWShare
import Derived.Test.YtcjbnonjhahakaaDoorWN
import Derived.Test.YtcjbnonjhahakaaDoorWFootNe
import Derived.Test.YtcjbnonjhahakaaDoorWAt
import Derived.Test.YtcjbnonjhahakaaDoorWEqStruct
import Derived.Test.YtcjbnonjhahakaaDoorWRepsOne
import Derived.Test.YtcjbnonjhahakaaDoorWInv
import Derived.Test.YtcjbnonjhahakaaDoorWInvWords
import Derived.Test.YtcjbnonjhahakaaDoorWGuard
import Derived.Test.YtcjbnonjhahakaaDoorWNEv
import Derived.Test.YtcjbnonjhahakaaDoorWMore
import Derived.Test.YtcjbnonjhahakaaDoorHandH
import Derived.Test.YtcjbnonjhahakaaDoorShelfS
import Derived.Lib.OwnBridge
import Derived.Shelf.SlSortCmp.NoneTotal
import Derived.Laws.EntriesVeiled
namespace Go.Proofs.YtcjbnonjhahakaaDoor.Hand
open Go.RowKit Go.Proofs.YtcjbnonjhahakaaDoorW.PrintWords Go.Proofs.YtcjbnonjhahakaaDoorW.PrintLast Go.Proofs.YtcjbnonjhahakaaDoorW.PrintMore
set_option linter.unusedVariables false
set_option linter.unusedSimpArgs false

/-! makers, the order, Makers. -/
open Go.Shelf Go.Lib Go.Sort Go.Maps Go.Proofs.YtcjbnonjhahakaaDoor.Math Go.Proofs.YtcjbnonjhahakaaDoor.Goes Go.Proofs.YtcjbnonjhahakaaDoor.Bef
def cfS (a b : ByteArray) : Int := if a.size ≠ b.size then (a.size : Int) - (b.size : Int) else Lib.compareBytes (L a) (L b)
theorem compare_lt : ∀ (a b : List UInt8), Lib.compareBytes a b < 0 ↔ a < b
  | [], [] => by simp [Lib.compareBytes]
  | [], _ :: _ => by simp [Lib.compareBytes]
  | _ :: _, [] => by simp [Lib.compareBytes]
  | a :: x, b :: y => by
    rw [Lib.compareBytes, List.cons_lt_cons_iff]
    by_cases h1 : a < b
    · simp [h1]
    · rw [if_neg h1]
      by_cases h2 : b < a
      · rw [if_pos h2]
        constructor
        · intro h; omega
        · rintro (h | ⟨h, _⟩)
          · exact absurd h h1
          · subst h; exact absurd h2 (UInt8.lt_irrefl _)
      · rw [if_neg h2, compare_lt x y]
        have e : a = b := by
          apply UInt8.toNat_inj.1
          rw [UInt8.lt_iff_toNat_lt] at h1 h2
          omega
        constructor
        · intro h; exact .inr ⟨e, h⟩
        · rintro (h | ⟨_, h⟩)
          · exact absurd h h1
          · exact h
theorem ltOf_sh (a b : ByteArray) : ltOf cfS a b = shLt (L a) (L b) := by
  unfold ltOf cfS shLt
  rw [L_length, L_length]
  by_cases h : a.size = b.size
  · rw [if_neg (by simpa using h)]
    simp [h, compare_lt]
  · rw [if_pos h]
    have e : ((a.size : Int) - (b.size : Int) < 0) ↔ a.size < b.size := by omega
    simp [h, e]
set_option maxRecDepth 100000 in
theorem shorter_calls (a b : ByteArray) (ha : a.size ≤ 1000000) (hb : b.size ≤ 1000000) (w : World) : Calls Tryd.prog 58 #[.string a, .string b] w fun e w' => e = .returned (.int .i64 (cfS a b)) ∧ w' = w := by
  unfold cfS
  by_cases h : a.size = b.size
  · rw [if_neg (by simpa using h)]
    have hcmp := fun w => Tryd.strings_Compare a b w
    obtain ⟨r, hr⟩ : ∃ r, Lib.compareBytes (L a) (L b) = r := ⟨_, rfl⟩
    have hr' : Lib.compareBytes a.data.toList b.data.toList = r := hr
    rw [hr'] at hcmp
    rw [hr]
    have h' : ((a.size : Int) != (b.size : Int)) = false := by rw [h]; simp
    clear hr hr'
    go_enter Tryd.func58, Tryd.ntmps58
    go_wp2_with (go_at_call 67; refine (hcmp _).mono ?_; rintro e w' ⟨rfl, rfl⟩)
    go_ret
    exact ⟨rfl, rfl⟩
  · rw [if_pos h]
    have h' : ((a.size : Int) != (b.size : Int)) = true := bne_iff_ne.2 (by omega)
    go_enter Tryd.func58, Tryd.ntmps58
    go_wp2
    go_ret
    exact ⟨rfl, rfl⟩
/-! makers; the sorted list. -/
open Go.Shelf Go.Lib Go.Sort Go.Maps Go.Proofs.YtcjbnonjhahakaaDoor.Math Go.Proofs.YtcjbnonjhahakaaDoor.Goes Go.Proofs.YtcjbnonjhahakaaDoor.Bef
abbrev Sw := {w : List UInt8 // w.length ≤ 1000}
instance : Inhabited Sw := ⟨⟨[], by simp⟩⟩
def encW (x : Sw) : Value := .string (B x.1)
def cfW (x y : Sw) : Int := cfS (B x.1) (B y.1)
def sortS (l : List Sw) : List Sw := l.mergeSort fun x y => !(ltOf cfW) y x
theorem ltOf_W (x y : Sw) : ltOf cfW x y = shLt x.1 y.1 := by
  have := ltOf_sh (B x.1) (B y.1)
  rw [L_B, L_B] at this
  exact this
theorem swoW : SWO (ltOf cfW) where
  irrefl x := by rw [ltOf_W]; exact shLt_irrefl _
  trans x y z h1 h2 := by rw [ltOf_W] at *; exact shLt_trans h1 h2
  ntrans x y z h1 h2 := by rw [ltOf_W] at *; exact shLt_ntrans h1 h2
theorem connW (x y : Sw) (h1 : ltOf cfW x y = false) (h2 : ltOf cfW y x = false) : x = y := by
  rw [ltOf_W] at h1 h2
  exact Subtype.ext (shLt_conn h1 h2)
theorem sortS_val (l : List Sw) : (sortS l).map (·.1) = sortW (l.map (·.1)) := by
  unfold sortS sortW
  exact List.map_mergeSort (fun a _ b _ => by rw [ltOf_W]; rfl)
theorem grow_heap (w : World) (os : Array Obj) (k : Nat) (hk : k < w.heap.size) : (grow w os).heap[k]? = w.heap[k]? := by
  simp [grow, Array.getElem?_append_left hk]
theorem below_grow {B : Nat} {w0 w : World} (os : Array Obj) (h : Below B w0 w) (hB : B ≤ w0.heap.size) : Below B w0 (grow w os) :=
  ⟨h.os, h.tape, h.output, by have := h.size; simp [grow]; omega, fun k hk => (grow_heap w os k (by have := h.size; omega)).trans (h.block k hk)⟩
theorem own_grow {w : World} {base n : Nat} {v : Value} {xs : List Value} (h : w.ownsRow base 9 1 v n xs) (os : Array Obj) : (grow w os).ownsRow base 9 1 v n xs :=
  own_move h (fun k hk => by
    obtain ⟨cells, hh⟩ := own_typed h k hk
    exact grow_heap w os k (Array.getElem?_eq_some_iff.1 hh).1)
theorem sort_own (l : List Sw) (v : Value) (w : World) (base : Nat) (hown : w.ownsRow base 9 1 v l.length (l.map encW)) (hl : l.length ≤ 1000000000000) (hbase : base ≤ w.heap.size) :
    Calls Tryd.prog 57 #[v, .func (.func 58) #[] #[]] w fun e w' => e = .returned (.tuple #[]) ∧ w'.ownsRow base 9 1 v l.length ((sortS l).map encW) ∧ Below base w w' := by
  have hnone : ∀ (p : Option Addr) (cap : Nat) (w : World), Calls Tryd.prog 57 #[.slice p 0 cap, .func (.func 58) #[] #[]] w fun e w' => e = .returned (.tuple #[]) ∧ w' = w := fun p cap w => AnyF.slices_SortFunc_none (P := Tryd.prog) (ρ := Tryd.sortS_ren) { Tryd.sortS with } p cap _ w
  by_cases hv : v = .slice none 0 0
  · subst hv
    have h0 : l.length = 0 := by
      rcases hown.2 with ⟨_, h0⟩ | ⟨g, cap, cur, e, _⟩
      · exact h0
      · cases e
    obtain rfl := List.eq_nil_of_length_eq_zero h0
    refine (hnone none 0 w).mono ?_
    rintro e w' ⟨rfl, rfl⟩
    exact ⟨rfl, by simpa [sortS] using hown, Below.refl _ _⟩
  · obtain ⟨g, cap, rfl, hg, hlt, hn, hm, _, hH⟩ := holds_of_ownsRow hown hv
    by_cases h0 : l.length = 0
    · obtain rfl := List.eq_nil_of_length_eq_zero h0
      refine (hnone (some ⟨g, 0, none⟩) cap w).mono ?_
      rintro e w' ⟨rfl, rfl⟩
      exact ⟨rfl, by simpa [sortS] using hown, Below.refl _ _⟩
    · have eg : ∀ args w, (callFunc 58 args).run Tryd.prog w = .ok (.enter 58 args) w := enters_of Tryd.func58 (by kernel_rfl) rfl
      have hcmp : CmpReads Tryd.prog 58 #[] encW cfW g 0 l.toArray.size w := fun m os dk hs x y => by
        refine (shorter_calls (B x.1) (B y.1) (by rw [B_size]; have := x.2; omega) (by rw [B_size]; have := y.2; omega) _).mono ?_
        rintro e w' ⟨rfl, rfl⟩
        exact ⟨rfl, 0, rfl⟩
      have hs := Any.slices_SortFunc_total Tryd.sortS encW (fun _ => rfl) cfW swoW 58 #[] g 0 cap l.toArray w eg hcmp.lays hH hlt (by rw [List.size_toArray]; omega) connW
      rw [List.size_toArray] at hs
      refine Calls.mono (show Calls Tryd.prog 57 _ _ _ from hs) ?_
      rintro e w' ⟨rfl, q, os, rfl⟩
      refine ⟨rfl, ?_, below_grow os (below_putRow (Below.refl base w) hg) hbase⟩
      have hp := ownsRow_putRow (q := q) (k := l.length) (ys := sortS l) hown (by unfold sortS; simp) (Nat.le_refl _)
      rw [List.take_of_length_le (by unfold sortS; simp)] at hp
      exact own_grow hp os
theorem mkL_len : ∀ (m : Nat) (w x : List UInt8), x ∈ mkL m w → x.length ≤ m
  | 0, _, _, h => by cases h
  | m + 1, w, x, h => by
    rcases mem_mkL.1 h with ⟨h1, rfl⟩ | ⟨c, _, b, _, y, hy, rfl⟩
    · simpa using h1
    · have := mkL_len m b y hy
      simpa using this
def toSw (s : ByteArray) : Sw := if h : (L s).length ≤ 1000 then ⟨L s, h⟩ else ⟨[], by simp⟩
theorem toSw_val {s : ByteArray} (h : (L s).length ≤ 1000) : (toSw s).1 = L s := by unfold toSw; rw [dif_pos h]
theorem toSw_enc {l : List ByteArray} (h : ∀ s ∈ l, (L s).length ≤ 1000) : (l.map toSw).map encW = l.map Value.string := by
  rw [List.map_map]
  refine List.map_congr_left fun s hs => ?_
  show Value.string (B (toSw s).1) = _
  rw [toSw_val (h s hs), B_L]
/-- What lies in the list behind the sort. -/
theorem sorted_words {l : List ByteArray} {W : List (List UInt8)} (hp : l.Perm (W.map B)) (hW : ∀ x ∈ W, x.length ≤ 1000) : (∀ s ∈ l, (L s).length ≤ 1000) ∧ (sortS (l.map toSw)).map encW = ((sortW W).map B).map Value.string := by
  have h1 : ∀ s ∈ l, (L s).length ≤ 1000 := fun s hs => by
    obtain ⟨x, hx, rfl⟩ := List.mem_map.1 (hp.mem_iff.1 hs)
    rw [L_B]; exact hW x hx
  refine ⟨h1, ?_⟩
  have h2 : (l.map toSw).map (·.1) = l.map L := by
    rw [List.map_map]
    exact List.map_congr_left fun s hs => toSw_val (h1 s hs)
  have h3 : (l.map L).Perm W := by
    have := hp.map L
    rw [List.map_map] at this
    have e : (L ∘ B) = id := by funext x; exact L_B x
    rwa [e, List.map_id] at this
  have h4 := sortS_val (l.map toSw)
  rw [h2, sortW_of_perm h3] at h4
  have h5 : (sortS (l.map toSw)).map encW = (((sortS (l.map toSw)).map (·.1)).map B).map Value.string := by
    rw [List.map_map, List.map_map]; rfl
  rw [h5, h4]
/-! makers and Makers, called. -/
open Go.Shelf Go.Lib Go.Sort Go.Maps Go.Proofs.YtcjbnonjhahakaaDoor.Math Go.Proofs.YtcjbnonjhahakaaDoor.Goes Go.Proofs.YtcjbnonjhahakaaDoor.Bef
theorem MkSt.start (w : World) (cl cv : Nat) (long : Int) (w4 : World) (hcl : w.heap.size < cl ∧ cl < w.heap.size + 4) (hcv : w.heap.size < cv ∧ cv < w.heap.size + 4) (hb : Below w.heap.size w w4)
    (h0 : w4.heap[w.heap.size]? = some (.cells #[.slice none 0 0] 32)) (h1 : w4.heap[cl]? = some (.cells #[.int .i64 long] 3)) (h2 : w4.heap[cv]? = some (.cells #[.func (.func 56) #[] #[.pointer (some ⟨w.heap.size, 0, none⟩)]] 60))
    (h3 : w4.heap[w.heap.size + 3]? = some (.cells #[.func (.func 63) #[] #[.pointer (some ⟨cl, 0, none⟩), .pointer (some ⟨cv, 0, none⟩), .pointer (some ⟨w.heap.size + 3, 0, none⟩)]] 66)) : MkSt w cl cv long w4 (.slice none 0 0) [] :=
  ⟨hb, hcl, hcv, h0, h1, h2, h3, own_nil _ _ _ _⟩
theorem four_new (W : World) (o0 o1 o2 o3 : Obj) : ((((W.alloc o0).alloc o1).alloc o2).alloc o3).heap[W.heap.size]? = some o0 ∧ ((((W.alloc o0).alloc o1).alloc o2).alloc o3).heap[W.heap.size + 1]? = some o1 ∧ ((((W.alloc o0).alloc o1).alloc o2).alloc o3).heap[W.heap.size + 1 + 1]? = some o2 ∧ ((((W.alloc o0).alloc o1).alloc o2).alloc o3).heap[W.heap.size + 1 + 1 + 1]? = some o3 := by
  have e1 : (W.alloc o0).heap.size = W.heap.size + 1 := by simp
  have e2 : ((W.alloc o0).alloc o1).heap.size = W.heap.size + 1 + 1 := by simp
  have e3 : (((W.alloc o0).alloc o1).alloc o2).heap.size = W.heap.size + 1 + 1 + 1 := by simp
  have n0 := heap_alloc_new W o0
  have n1 := heap_alloc_new (W.alloc o0) o1
  have n2 := heap_alloc_new ((W.alloc o0).alloc o1) o2
  have n3 := heap_alloc_new (((W.alloc o0).alloc o1).alloc o2) o3
  rw [e1] at n1
  rw [e2] at n2
  rw [e3] at n3
  refine ⟨?_, ?_, ?_, n3⟩
  · rw [Below.heap_alloc _ _ _ (by omega), Below.heap_alloc _ _ _ (by omega), Below.heap_alloc _ _ _ (by omega)]; exact n0
  · rw [Below.heap_alloc _ _ _ (by omega), Below.heap_alloc _ _ _ (by omega)]; exact n1
  · rw [Below.heap_alloc _ _ _ (by omega)]; exact n2
set_option maxHeartbeats 1000000 in
set_option maxRecDepth 100000 in
theorem makers_calls (w : World) (hO : Ops w) (x : List UInt8) (hx : x ≠ []) (hxl : x.length ≤ 200) (long : Nat) (hl : long ≤ 8) :
    Calls Tryd.prog 55 #[.string (B x), .int .i64 (long : Int), .func (.func 56) #[] #[.pointer (some ⟨w.heap.size, 0, none⟩)]] (w.alloc (.cells #[.slice none 0 0] 32)) fun e w' => e = .returned (.tuple #[]) ∧ ∃ cl cv v l, MkSt w cl cv (long : Int) w' v l ∧ l.Perm ((mkL long x).map B) := by
  have h25 : 25 ^ long ≤ 25 ^ 8 := Nat.pow_le_pow_right (by decide) hl
  obtain ⟨W4, hW4⟩ : ∃ W4, (((w.alloc (.cells #[.slice none 0 0] 32)).alloc (.cells #[.int .i64 (long : Int)] 3)).alloc (.cells #[.func (.func 56) #[] #[.pointer (some ⟨w.heap.size, 0, none⟩)]] 60)).alloc (.cells #[.func (.func 63) #[] #[.pointer (some ⟨w.heap.size + 1, 0, none⟩), .pointer (some ⟨w.heap.size + 1 + 1, 0, none⟩), .pointer (some ⟨w.heap.size + 1 + 1 + 1, 0, none⟩)]] 66) = W4 := ⟨_, rfl⟩
  have hS : MkSt w (w.heap.size + 1) (w.heap.size + 1 + 1) (long : Int) W4 (.slice none 0 0) [] := by
    have h4 := four_new w (.cells #[.slice none 0 0] 32) (.cells #[.int .i64 (long : Int)] 3) (.cells #[.func (.func 56) #[] #[.pointer (some ⟨w.heap.size, 0, none⟩)]] 60) (.cells #[.func (.func 63) #[] #[.pointer (some ⟨w.heap.size + 1, 0, none⟩), .pointer (some ⟨w.heap.size + 1 + 1, 0, none⟩), .pointer (some ⟨w.heap.size + 1 + 1 + 1, 0, none⟩)]] 66)
    rw [hW4] at h4
    refine MkSt.start w _ _ _ W4 (by omega) (by omega) ?_ h4.1 h4.2.1 h4.2.2.1 h4.2.2.2
    rw [← hW4]
    exact below_alloc (below_alloc (below_alloc (below_alloc (Below.refl _ _) _) _) _) _
  have hcall := makers1 w hO (w.heap.size + 1) (w.heap.size + 1 + 1) long hl long [] x [] (.slice none 0 0) W4 (by simp) hx (by omega) (by simp only [List.length_nil]; omega) hS
  rw [show B ([] : List UInt8) = ⟨#[]⟩ from rfl, List.nil_append] at hcall
  have e1 : ((mkL long x).map (([] : List UInt8) ++ ·)) = mkL long x := by simp
  rw [e1] at hcall
  obtain ⟨bx, hbx⟩ : ∃ bx, B x = bx := ⟨_, rfl⟩
  rw [hbx] at hcall ⊢
  have hc4 : W4.cell? ⟨w.heap.size + 1 + 1 + 1, 0, none⟩ = some (.func (.func 63) #[] #[.pointer (some ⟨w.heap.size + 1, 0, none⟩), .pointer (some ⟨w.heap.size + 1 + 1, 0, none⟩), .pointer (some ⟨w.heap.size + 3, 0, none⟩)]) := by
    have hb3 := hS.b3
    simp only [World.cell?]
    rw [show w.heap.size + 1 + 1 + 1 = w.heap.size + 3 by omega, hb3]; rfl
  have HC := Aside0.mk hcall
  clear hcall hS h25
  go_enter Tryd.func55, Tryd.ntmps55
  go_wp2_with (go_at_call 63; go_loud (refine HC.out.mono ?_; rintro e w1 ⟨rfl, v, l, hp, hS, hK⟩; have HS := Aside0.mk hS; have HP := Aside0.mk hp; clear hS hp hK))
  ((try simp only [Exit.inBlock, Exit.then]); refine bodyPost_end (results_none rfl _ _ _) rfl ?_)
  exact ⟨rfl, _, _, v, l, HS.out, HP.out⟩
/-! Makers, called. -/
open Go.Shelf Go.Lib Go.Sort Go.Maps Go.Proofs.YtcjbnonjhahakaaDoor.Math Go.Proofs.YtcjbnonjhahakaaDoor.Goes Go.Proofs.YtcjbnonjhahakaaDoor.Bef
def parrot_Makers.f (a0 : ByteArray) (a1 : Int) : Option (List ByteArray × Int) := if wordE (L a0) ≠ 0 then some ([], wordE (L a0)) else if a1 < 1 ∨ a1 > 8 then some ([], 4) else some ((sortW (mkL a1.toNat (L a0))).map B, 0)
set_option maxHeartbeats 1000000 in
set_option maxRecDepth 100000 in
theorem parrot_Makers.calls (a0 : ByteArray) (a1 : Int) (r1 : List ByteArray) (r2 : Int) (w : World) (hO : Ops w) (h : parrot_Makers.f a0 a1 = some (r1, r2)) :
    Calls Tryd.prog 36 #[.string a0, .int .i64 a1] w fun e w' => ∃ v0_ : Value, e = .returned (.tuple #[v0_, .int .i64 r2]) ∧ Kd.R Kd.string 9 w' w.heap.size (fun _ => True) v0_ r1 ∧ Below w.heap.size w w' := by
  unfold parrot_Makers.f at h
  have hwc := fun w => parrot_word.calls a0 (wordE (L a0)) w rfl
  by_cases c : wordE (L a0) = 0
  · rw [if_neg (show ¬ wordE (L a0) ≠ 0 by simpa using c)] at h
    rw [c] at hwc
    have hw := wordE_ok.1 c
    by_cases c8 : a1 < 1 ∨ a1 > 8
    · rw [if_pos c8] at h
      simp only [Option.some.injEq, Prod.mk.injEq] at h
      obtain ⟨rfl, rfl⟩ := h
      rcases c8 with c8 | c8
      · go_enter Tryd.func36, Tryd.ntmps36
        go_wp2_with (go_at_call 40; refine (hwc _).mono ?_; rintro e w0 ⟨rfl, hb0⟩)
        go_ret2
        exact ⟨_, rfl, Kd.R_nil _ _ _ _ _, hb0⟩
      · have c9 : ¬ a1 < 1 := by omega
        go_enter Tryd.func36, Tryd.ntmps36
        go_wp2_with (go_at_call 40; refine (hwc _).mono ?_; rintro e w0 ⟨rfl, hb0⟩)
        go_ret2
        exact ⟨_, rfl, Kd.R_nil _ _ _ _ _, hb0⟩
    · rw [if_neg c8] at h
      simp only [Option.some.injEq, Prod.mk.injEq] at h
      obtain ⟨rfl, rfl⟩ := h
      have c1 : ¬ a1 < 1 := fun q => c8 (.inl q)
      have c2 : ¬ a1 > 8 := fun q => c8 (.inr q)
      clear c8
      obtain ⟨n, rfl⟩ : ∃ n : Nat, a1 = (n : Int) := ⟨a1.toNat, by omega⟩
      rw [Int.toNat_natCast]
      have hmk := fun w hO => makers_calls w hO (L a0) hw.2.2 hw.1 n (by omega)
      rw [B_L] at hmk
      have hlen : ∀ x ∈ mkL n (L a0), x.length ≤ 1000 := fun x hx => Nat.le_trans (mkL_len _ _ _ hx) (by omega)
      have hmany := mkL_many n (L a0)
      have h14 : 14 ^ n ≤ 14 ^ 8 := Nat.pow_le_pow_right (by decide) (by omega)
      have HNUM := Aside0.mk (And.intro hmany h14)
      clear hmany h14
      have harm : ∀ (w0 w1 : World) (cl cv : Nat) (v : Value) (l : List ByteArray), MkSt w0 cl cv (n : Int) w1 v l → l.Perm ((mkL n (L a0)).map B) →
          Calls Tryd.prog 57 #[v, .func (.func 58) #[] #[]] w1 fun e w' => e = .returned (.tuple #[]) ∧ w'.ownsRow w0.heap.size 9 1 v ((sortW (mkL n (L a0))).map B).length (((sortW (mkL n (L a0))).map B).map Value.string) ∧ Below w0.heap.size w0 w' ∧ w'.heap[w0.heap.size]? = some (.cells #[v] 32) := by
        intro w0 w1 cl cv v l hS hp
        have hlp := hp.length_eq
        rw [List.length_map] at hlp
        have hsl : (sortW (mkL n (L a0))).length = (mkL n (L a0)).length := (sortW_perm _).length_eq
        have hsw := sorted_words hp hlen
        have hown := hS.own
        rw [← toSw_enc hsw.1, show l.length = (l.map toSw).length by simp] at hown
        have hb3 := (Array.getElem?_eq_some_iff.1 hS.b3).1
        refine (sort_own (l.map toSw) v w1 (w0.heap.size + 4) hown (by have := HNUM.out; simp; omega) (by omega)).mono ?_
        rintro e w' ⟨rfl, ho, hb⟩
        rw [hsw.2] at ho
        refine ⟨rfl, ?_, hS.below.trans (hb.mono (by omega)), (hb.5 _ (by omega)).trans hS.b0⟩
        rw [List.length_map] at ho
        rw [List.length_map, hsl, ← hlp]
        exact own_less ho (by omega)
      have HARM := Aside0.mk harm
      clear harm
      go_enter Tryd.func36, Tryd.ntmps36
      go_wp2_with (first | (go_at_call 40; go_loud (refine (hwc _).mono ?_; rintro e w0 ⟨rfl, hb0⟩; have HB0 := Aside0.mk hb0; clear hb0)) | (go_at_call 55; go_loud (refine (hmk _ (hO.below HB0.out)).mono ?_; rintro e w1 ⟨rfl, cl, cv, v, l, hS, hp⟩; have hcv1 : w1.cell? ⟨w0.heap.size, 0, none⟩ = some v := (by simp only [World.cell?, hS.b0]; rfl); have HS := Aside0.mk hS; have HP := Aside0.mk hp; clear hS hp)) | (go_at_call 57; go_loud (refine (HARM.out _ _ _ _ _ _ HS.out HP.out).mono ?_; rintro e w2 ⟨rfl, ho2, hb2, hc2⟩; have hcv2 : w2.cell? ⟨w0.heap.size, 0, none⟩ = some v := (by simp only [World.cell?, hc2]; rfl); have HO2 := Aside0.mk ho2; have HB2 := Aside0.mk hb2; clear ho2 hb2 hc2)))
      go_ret2
      have hl0 := HB0.out.size
      exact ⟨_, rfl, own_RS (own_less HO2.out hl0) rfl, HB0.out.trans (HB2.out.mono hl0)⟩
  · rw [if_pos c] at h
    simp only [Option.some.injEq, Prod.mk.injEq] at h
    obtain ⟨rfl, rfl⟩ := h
    obtain ⟨e1, he1⟩ : ∃ e1, wordE (L a0) = e1 := ⟨_, rfl⟩
    rw [he1] at hwc c ⊢
    have c' : (e1 != 0) = true := bne_iff_ne.2 c
    go_enter Tryd.func36, Tryd.ntmps36
    go_wp2_with (go_at_call 40; refine (hwc _).mono ?_; rintro e w0 ⟨rfl, hb0⟩)
    go_ret2
    exact ⟨_, rfl, Kd.R_nil _ _ _ _ _, hb0⟩

end Go.Proofs.YtcjbnonjhahakaaDoor.Hand
