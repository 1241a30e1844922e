import Derived.Test.YtndpnlpidphflaaProg
import Derived.Below
import Derived.Deep.Draws
import Derived.Deep.AppendLies
import Derived.Maps.AppendAt
import Derived.OwnWalk
import Derived.Laws.BytesArg
import Derived.Laws.MakeOwn
import Derived.Laws.OwnMore
import Derived.Deep.OwnRows
import Derived.Tactics
import Derived.Lib.ConvBytes
import Derived.Laws.Slices
import Derived.WalkKit
import Derived.KernelRfl
import Derived.RowKit3
import Derived.Deep.LoopGhost
import Derived.Deep.QuietTactic
import Derived.BigQuiet
import Derived.WideLaws
import Derived.Deep.DeepCutAuto
import Derived.Deep.CutBlock
import Derived.Deep.RegionHeld3
import Derived.Laws.Rows
import Derived.Lib.AppendStr
import Derived.ArgAppend
import Derived.Laws.IdiomCopy
import Derived.OrdersHeld
import Derived.Laws.BitsLemmas
import Derived.RowKit
import Derived.Test.YtndpnlpidphflaaWWords
import Derived.Test.YtndpnlpidphflaaWLast
import Derived.Test.YtndpnlpidphflaaWTab
import Derived.Test.YtndpnlpidphflaaWFour
import Derived.Test.YtndpnlpidphflaaWQPut
import Derived.Test.YtndpnlpidphflaaWApart
import Derived.Test.YtndpnlpidphflaaWArr
import Derived.Test.YtndpnlpidphflaaWZeros
import Derived.Test.YtndpnlpidphflaaWFoot
import Derived.Test.YtndpnlpidphflaaWKept
import Derived.Test.YtndpnlpidphflaaWShare
import Derived.Test.YtndpnlpidphflaaWN
import Derived.Test.YtndpnlpidphflaaWFootNe
import Derived.Test.YtndpnlpidphflaaWAt
import Derived.Test.YtndpnlpidphflaaWEqStruct
import Derived.Test.YtndpnlpidphflaaWRepsOne
import Derived.Test.YtndpnlpidphflaaWInv
import Derived.Test.YtndpnlpidphflaaWInvWords
import Derived.Test.YtndpnlpidphflaaWGuard
import Derived.Test.YtndpnlpidphflaaWNEv
import Derived.Test.YtndpnlpidphflaaWMore
import Derived.Test.YtndpnlpidphflaaHandE
import Derived.Lib.OwnBridge
namespace Go.Proofs.Ytndpnlpidphflaa.Hand
open Go.RowKit Go.Proofs.YtndpnlpidphflaaW.PrintWords Go.Proofs.YtndpnlpidphflaaW.PrintLast Go.Proofs.YtndpnlpidphflaaW.PrintMore
set_option linter.unusedVariables false
set_option linter.unusedSimpArgs false

open Go.Proofs.Ytndpnlpidphflaa.Pre

theorem own_grow {w : World} {base : Nat} {e : TypeId} {size n : Nat} {v : Value} {xs : List Value} (h : w.ownsRow base e size v n xs) (os : Array Obj) : (Sort.grow w os).ownsRow base e size v n xs :=
  own_move h fun k hk => by
    have := own_lt h k hk
    simp [Sort.grow, Array.getElem?_append_left this]
theorem below_grow2 {w w1 : World} (h : Below w.heap.size w w1) (os : Array Obj) : Below w.heap.size w (Sort.grow w1 os) :=
  ⟨h.os, h.tape, h.output, by have := h.size; simp [Sort.grow]; omega, fun i hi => by
    rw [← h.block i hi]
    have := h.size
    simp [Sort.grow, Array.getElem?_append_left (show i < w1.heap.size by omega)]⟩
theorem crel_append {w wr w3 : World} {g : Nat} {l : List Int} {v v' : Value} {out : List Int} {o : Obj} {x : Int} (h : CRel w wr g l v out) (ho : w3.ownsRow w.heap.size 3 1 v' (out.length + 1) (nums .i64 out ++ [.int .i64 x])) (hg : (wr.alloc o).grownBy w3 v.ownBlock)
    (hat : v'.ownBlock = v.ownBlock ∨ v'.ownBlock = some (wr.heap.size + 1)) (hlim : out.length < 1000000) : CRel w w3 g l v' (out ++ [x]) := by
  obtain ⟨h1, h2, h3, h4, h5, h6⟩ := h
  have hgl := blk_lt h2
  refine ⟨h1, blk_grown (alloc_old h2) hg (fun e => h4 e.symm), ?_, ?_, ?_, by simp; omega⟩
  · rw [List.length_append, List.length_singleton, nums_append]; exact ho
  · rcases hat with e | e
    · rw [e]; exact h4
    · rw [e]; intro e2; have := Option.some.inj e2; omega
  · exact pw_below_grown (below_alloc h5 o) _ (by have := h5.size; simp; omega) hg (fun b hb => own_base h3 b hb)

set_option maxHeartbeats 4000000 in
set_option maxRecDepth 100000 in
theorem cycles_main (k n : Nat) (s : Int) (res : List Int) (w : World) (hn0 : 1 ≤ n) (hn : n ≤ 2000) (hs0 : 1 ≤ s) (hs1 : s ≤ 1000) (hl : pole_listed.f n s = some 0) (h : cyc0 k (jst s n n).1 [] 0 = some res) :
    Calls Try.prog 40 #[.int .i64 n, .int .i64 s] w fun e w' => ∃ v : Value, e = .returned (.tuple #[v, .int .i64 0]) ∧ w'.ownsRow w.heap.size 3 1 v res.length (nums .i64 (sortI res)) ∧ Below w.heap.size w w' := by
  have info3 : (Try.prog.info? 3).map (fun i => (i.zero, i.size, i.bytes)) = some (some (.int .i64 0), 1, 8) := by kernel_rfl
  obtain ⟨i0, hi, hz0, hz1, hz2⟩ := info_parts info3
  have hsz : (Try.prog.info? 3).map (·.size) = some 1 := by rw [hi]; simp [hz1]
  have HSZ := Aside0.mk hsz
  have hmk : ∀ w : World, (Instr.makeSlice 37 (.int .i64 (n : Int)) (.int .i64 (n : Int))).run Try.prog w = .ok (.slice (some ⟨w.heap.size, 0, none⟩) n n) (w.alloc (.cells (Array.replicate n (Value.int .i64 0)) 3)) := fun w => by
    rw [made_ints w n (by omega)]
    congr 3
    apply Array.ext'
    simp
  have HH := Aside0.mk h
  have HL := Aside0.mk hl
  clear h hl hsz
  go_enter Try.func40, Try.ntmps40
  go_wp2_with fail
  refine (pole_listed.calls n s 0 _ HL.out).mono ?_
  rintro e w1 ⟨rfl, ⟨nd, rfl⟩⟩
  go_wp2_with fail
  refine (order_any n s _ (by omega) hs0 (by omega)).mono ?_
  rintro e w2 ⟨vl, rfl, hO⟩
  obtain ⟨_, hown, hbel, hsize⟩ := hO
  rcases hown.2 with ⟨_, hz⟩ | ⟨gl, co, curl, rfl, hgl, hhl, hnl, hcl, hcsl, htl⟩
  · omega
  have hsrc : ∀ j v, (nums .i64 (jst s n n).1)[j]? = some v → (w2.alloc (.cells (Array.replicate n (Value.int .i64 0)) 3)).cell? ((⟨gl, 0, none⟩ : Addr).add j) = some v := fun j v hv => by
    have hlt := blk_lt hhl
    rw [World.cell?_of_block (w := w2) (by
      have : ((⟨gl, 0, none⟩ : Addr).add j).block = gl := by rw [Addr.add_lit]
      rw [this]
      exact (below_alloc (Below.refl w2.heap.size w2) _).block gl hlt)]
    exact hown.cells rfl j v hv
  have HSR := Aside0.mk hsrc
  have HB : Aside0 (Below w.heap.size w w2) := ⟨⟨hbel.os, hbel.tape, hbel.output, hbel.size, fun i hi => hbel.block i hi⟩⟩
  clear hown hhl htl hcsl hbel hsrc HL
  have hg2 : Aside0 ((w2.alloc (.cells (Array.replicate n (Value.int .i64 0)) 3)).heap[w2.heap.size]? = some (.cells (Array.replicate n (Value.int .i64 0)) 3 (0, 0))) := ⟨heap_alloc_new _ _⟩
  have hcl1 : Aside0 ((nums .i64 (jst s n n).1).length = Nat.min n n) := ⟨by rw [nums_length, jst_out]; simp⟩
  have hcl2 : Aside0 (0 + (nums .i64 (jst s n n).1).length ≤ ((Array.replicate n (Value.int .i64 0))).size) := ⟨by rw [nums_length, jst_out]; simp⟩
  have hcl3 : Aside0 (∀ u ∈ nums .i64 (jst s n n).1, u.oneCell' = true) := ⟨by
    intro u hu
    obtain ⟨y, _, rfl⟩ := List.mem_map.1 hu
    rfl⟩
  go_wp2_with ((refine wpList_copy_own rfl (.tmp 24) (.tmp 25) 37 37 rfl 3 Try.underlying37 HSZ.out w2.heap.size 0 n n ⟨gl, 0, none⟩ n co rfl rfl _ 3 hg2.out (nums .i64 (jst s n n).1) hcl1.out HSR.out hcl2.out hcl3.out ?_))
  have hC0 : CRel w ((w2.alloc (.cells (Array.replicate n (Value.int .i64 0)) 3)).setRow w2.heap.size (nums .i64 (jst s n n).1 ++ List.replicate (n - (nums .i64 (jst s n n).1).length) (Value.int .i64 0)).toArray) w2.heap.size (jst s n n).1 (.slice none 0 0) [] := by
    refine ⟨HB.out.size, ?_, own_nil _ _ _ _, by simp [Value.ownBlock], ?_, by simp⟩
    · rw [setRow_heap _ _ _ _ _ _ hg2.out, nums_length, jst_out]
      simp
    · have h1 : Below w.heap.size w (w2.alloc (.cells (Array.replicate n (Value.int .i64 0)) 3)) := below_alloc HB.out _
      have hz := HB.out.size
      exact ⟨h1.os, h1.tape, h1.output, by simpa [World.setRow] using h1.size, fun i hi => (setRow_other _ _ _ _ (by omega)).trans (h1.block i hi)⟩
  have HC0 := Aside0.mk hC0
  clear hC0 hg2 hcl1 hcl2 hcl3 HB HSR hmk
  go_loopg [9, 29] k (fun q v i wr => ∃ (l out : List Int) (x : Int), i = .int .i64 x ∧ Aside0 (cyc0 q l out x = some res) ∧ Aside0 (l.length = n ∧ CRel w wr w2.heap.size l v out))
  case atStart => exact ⟨_, [], 0, rfl, HH, ⟨jst_out _ _ _, HC0.out⟩⟩
  case round =>
    clear HC0 HH
    obtain ⟨l, out, x, rfl, HA, HR⟩ := hrel
    cases gk with
    | zero => exact absurd HA.out (by simp [cyc0])
    | succ k1 =>
      have hA := HA.out
      unfold cyc0 at hA
      by_cases hlt : x < (n : Int)
      · rw [if_pos (by rw [HR.out.1]; exact hlt)] at hA
        obtain ⟨q, hq, hA⟩ := Option.bind_eq_some_iff.1 hA
        have HQ := Aside0.mk hq
        have HA2 := Aside0.mk hA
        clear hA hq HA
        obtain ⟨wo, rfl⟩ : ∃ wo : World, wo = wr := ⟨_, rfl⟩
        go_wp2_with fail
        go_loopg [11, 12] k1 (fun z va vb wr => ∃ (l1 : List Int) (a long : Int), va = .int .i64 long ∧ vb = .int .i64 a ∧ Aside0 (cyc1 z l1 a long = some q) ∧ Aside0 (l1.length = n ∧ CRel w wr w2.heap.size l1 u9 out))
        case atStart => exact ⟨_, _, _, rfl, rfl, HQ, HR⟩
        case round =>
          clear HQ HR
          obtain ⟨l1, a, long, rfl, rfl, HA1, HR1⟩ := hrel
          cases gk with
          | zero => exact absurd HA1.out (by simp [cyc1])
          | succ k2 =>
            have hA1 := HA1.out
            unfold cyc1 at hA1
            by_cases hr : 0 ≤ a ∧ a < l1.length
            · rw [if_pos hr] at hA1
              obtain ⟨j, rfl⟩ : ∃ j : Nat, a = (j : Int) := ⟨_, (Int.toNat_of_nonneg hr.1).symm⟩
              rw [Int.toNat_natCast] at hA1
              have hl1 := HR1.out.1
              have hjn : j < n := by omega
              have hcell : wr.cell? ⟨w2.heap.size, j, none⟩ = some (.int .i64 (rd l1 j)) := by
                rw [blk_cell HR1.out.2.2.1]
                simp [nums, rd, show j < l1.length by omega]
              have hfr : wr.frozen? ⟨w2.heap.size, j, none⟩ = false := blk_frozen HR1.out.2.2.1 j
              obtain ⟨v, hv⟩ : ∃ v, rd l1 (j : Int) = v := ⟨_, rfl⟩
              rw [hv] at hcell hA1
              clear hv hl1 hr HA1
              by_cases hge : v ≥ 0
              · rw [if_pos hge] at hA1
                have HA1 := Aside0.mk hA1
                have HN : Aside0 ((l1.set j (-1)).length = n ∧ CRel w (wr.setCell ⟨w2.heap.size, j, none⟩ (.int .i64 (-1))) w2.heap.size (l1.set j (-1)) u9 out) := ⟨by rw [List.length_set]; exact HR1.out.1, crel_set HR1.out.2 j (-1)⟩
                clear hA1 HR1
                go_wp2
                go_roundg k2
                case measure => omega
                case rel => exact ⟨_, v, wrap64 (long + 1), rfl, rfl, HA1, HN⟩
              · rw [if_neg hge] at hA1
                simp only [Option.some.injEq] at hA1
                subst hA1
                have hA2 := HA2.out
                simp only at hA2
                have hneg : v < 0 := by omega
                by_cases hpos : long > 0
                · rw [if_pos hpos] at hA2
                  by_cases hlim : out.length < 1000000
                  · rw [if_pos hlim] at hA2
                    have HA3 := Aside0.mk hA2
                    have HO1 := Aside0.mk HR1.out.2.2.2.1
                    have HW := Aside0.mk HR1.out.2.2.2.2.2.1.size
                    clear hA2 HA2 hfr hge
                    go_wp2_with (at_builtin; refine wpList_append_own_at _ rfl _ _ 37 rfl w.heap.size 3 i0 (.int .i64 0) 1 8 Try.underlying37 hi hz0 hz1 hz2 rfl (by decide) _ _ _ rfl (HO1.out.alloc _) ⟨wr.heap.size, 0, none⟩ 1 1 [.int .i64 long] rfl rfl ?d1 ?d2 ?d3 ?d4 ?d5 ?_)
                    case d1 => exact cell_one_new _ _ _
                    case d2 => intro u hu; simp at hu; subst hu; rfl
                    case d3 => unfold maxLen; omega
                    case d4 => omega
                    case d5 => have := HW.out; simp; omega
                    intro v' w3 hown3 hgrow3 _ hat3
                    have HN : Aside0 (l1.length = n ∧ CRel w w3 w2.heap.size l1 v' (out ++ [long])) := ⟨HR1.out.1, crel_append HR1.out.2 hown3 hgrow3 hat3 hlim⟩
                    clear hown3 hgrow3 hat3 HR1 HO1 HW
                    go_wp2
                    go_roundg k1
                    case measure => omega
                    case rel => exact ⟨_, _, wrap64 (x + 1), rfl, HA3, HN⟩
                  · rw [if_neg hlim] at hA2; cases hA2
                · rw [if_neg hpos] at hA2
                  have HA3 := Aside0.mk hA2
                  have hnp : long ≤ 0 := by omega
                  clear hA2 HA2 hge hpos
                  go_wp2
                  go_roundg k1
                  case measure => omega
                  case rel => exact ⟨_, _, wrap64 (x + 1), rfl, HA3, HR1⟩
            · rw [if_neg hr] at hA1; cases hA1
      · rw [if_neg (by rw [HR.out.1]; exact hlt)] at hA
        simp only [Option.some.injEq] at hA
        subst hA
        obtain ⟨hlen, hgB, hgc, hown, hne, hbel, hlim⟩ := HR.out
        have hge : (n : Int) ≤ x := by omega
        have HL := Aside0.mk hlen
        have HO1 := Aside0.mk hown
        have HB1 := Aside0.mk hbel
        clear hlen hgB hgc hown hne hbel HR HA hlt
        by_cases h0 : u9 = .slice none 0 0
        · subst h0
          have ho : out = [] := by
            rcases HO1.out.2 with ⟨_, h⟩ | ⟨g, cap, cur, h, _⟩
            · exact List.length_eq_zero_iff.1 h
            · cases h
          subst ho
          go_wp2_with fail
          refine (Try.slices_Sort_int_none none 0 _).mono ?_
          rintro e w' ⟨rfl, rfl⟩
          go_wp2
          go_ret2
          exact ⟨_, rfl, by simpa [sortI] using HO1.out, HB1.out⟩
        · obtain ⟨g, cap, rfl, hb, hglt, hcap, hcm, hz, hH⟩ := Lib.holds_of_ownsRow (enc := Value.int .i64) (zs := out) HO1.out h0
          have HH := Aside0.mk hH
          clear hH h0
          go_wp2_with fail
          refine (Try.slices_Sort_int g 0 cap out _ HH.out hglt ?_).mono ?_
          · omega
          rintro e w' ⟨rfl, q, os, rfl⟩
          have HF : Aside0 ((Sort.grow (Sort.putRow (Value.int .i64) (Sort.ahead wr q) g 0 (sortI out).toArray) os).ownsRow w.heap.size 3 1 (.slice (some ⟨g, 0, none⟩) out.length cap) out.length (nums .i64 (sortI out)) ∧ Below w.heap.size w (Sort.grow (Sort.putRow (Value.int .i64) (Sort.ahead wr q) g 0 (sortI out).toArray) os)) := by
            have hsl : (sortI out).length = out.length := by simp [sortI]
            have h1 := Lib.ownsRow_putRow (q := q) (k := out.length) (ys := sortI out) HO1.out hsl (Nat.le_refl _)
            rw [List.take_of_length_le (by omega)] at h1
            exact ⟨⟨own_grow h1 os, below_grow2 (Lib.below_putRow HB1.out hb) os⟩⟩
          obtain ⟨wf, hwf⟩ : ∃ wf, wf = Sort.grow (Sort.putRow (Value.int .i64) (Sort.ahead wr q) g 0 (out.mergeSort fun x y => decide (x ≤ y)).toArray) os := ⟨_, rfl⟩
          have HF2 : Aside0 (wf.ownsRow w.heap.size 3 1 (.slice (some ⟨g, 0, none⟩) out.length cap) out.length (nums .i64 (sortI out)) ∧ Below w.heap.size w wf) := by rw [hwf]; exact HF
          rw [← hwf]
          clear hwf HF HO1 HB1 HH
          go_wp2
          go_ret2
          exact ⟨_, rfl, HF2.out⟩

theorem pole_Cycles.calls (k : Nat) (a0 : Int) (a1 : Int) (r1 : List Int) (r2 : Int) (w : World) (h : pole_Cycles.f k a0 a1 = some (r1, r2)) :
    Calls Try.prog 40 #[.int .i64 a0, .int .i64 a1] w fun e w' => ∃ v0_ : Value, e = .returned (.tuple #[v0_, .int .i64 r2]) ∧ Kd.R (Kd.int .i64) 3 w' w.heap.size (fun _ => True) v0_ r1 ∧ Below w.heap.size w w' := by
  unfold pole_Cycles.f at h
  obtain ⟨e, he, h⟩ := Option.bind_eq_some_iff.1 h
  by_cases h0 : e = 0
  · rw [if_pos h0] at h
    subst h0
    obtain ⟨out, ho, h⟩ := Option.bind_eq_some_iff.1 h
    simp only [Option.some.injEq, Prod.mk.injEq] at h
    obtain ⟨rfl, rfl⟩ := h
    have hb : 1 ≤ a0 ∧ a0 ≤ 2000 ∧ 1 ≤ a1 ∧ a1 ≤ 1000 := by
      unfold pole_listed.f pole_circled.f at he
      by_cases c1 : a0 < 1
      · rw [if_pos c1] at he; simp at he
      rw [if_neg c1] at he
      by_cases c2 : a0 > 1125899906842624
      · rw [if_pos c2] at he; simp at he
      rw [if_neg c2] at he
      by_cases c3 : a1 < 1
      · rw [if_pos c3] at he; simp at he
      rw [if_neg c3] at he
      by_cases c4 : a1 > 1000
      · rw [if_pos c4] at he; simp at he
      rw [if_neg c4] at he
      by_cases c5 : a0 > 2000
      · simp [c5] at he
      omega
    obtain ⟨n, rfl⟩ : ∃ n : Nat, a0 = (n : Int) := ⟨_, (Int.toNat_of_nonneg (by omega)).symm⟩
    refine (cycles_main k n a1 out w (by omega) (by omega) hb.2.2.1 hb.2.2.2 he ho).mono ?_
    rintro e w' ⟨v, rfl, hown, hb⟩
    exact ⟨v, rfl, own_R hown (by simp [sortI]), hb⟩
  · rw [if_neg h0] at h
    simp only [Option.some.injEq, Prod.mk.injEq] at h
    obtain ⟨rfl, rfl⟩ := h
    have hne : (e != 0) = true := bne_iff_ne.mpr h0
    have HE := Aside0.mk he
    clear he h0
    go_enter Try.func40, Try.ntmps40
    go_wp2_with fail
    refine (pole_listed.calls a0 a1 e _ HE.out).mono ?_
    rintro e w1 ⟨rfl, ⟨nd, rfl⟩⟩
    go_wp2
    go_ret2
    exact ⟨_, rfl, Kd.R_nil _ _ _ _ _, pw_below_drewN (Below.refl _ _) nd⟩

end Go.Proofs.Ytndpnlpidphflaa.Hand
