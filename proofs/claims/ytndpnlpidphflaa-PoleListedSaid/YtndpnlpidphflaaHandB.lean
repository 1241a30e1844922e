import Derived.Test.YtndpnlpidphflaaProg
import Derived.Below
import Derived.Deep.Draws
import Derived.Deep.AppendLies
import Derived.Maps.AppendAt
import Derived.OwnWalk
import Derived.Laws.BytesArg
import Derived.Laws.MakeOwn
import Derived.Laws.OwnMore
import Derived.Deep.OwnRows
import Derived.Tactics
import Derived.Lib.ConvBytes
import Derived.Laws.Slices
import Derived.WalkKit
import Derived.KernelRfl
import Derived.RowKit3
import Derived.Deep.LoopGhost
import Derived.Deep.QuietTactic
import Derived.BigQuiet
import Derived.WideLaws
import Derived.Deep.DeepCutAuto
import Derived.Deep.CutBlock
import Derived.Deep.RegionHeld3
import Derived.Laws.Rows
import Derived.Lib.AppendStr
import Derived.ArgAppend
import Derived.Laws.IdiomCopy
import Derived.OrdersHeld
import Derived.Laws.BitsLemmas
import Derived.RowKit
import Derived.Test.YtndpnlpidphflaaWWords
import Derived.Test.YtndpnlpidphflaaWLast
import Derived.Test.YtndpnlpidphflaaWTab
import Derived.Test.YtndpnlpidphflaaWFour
import Derived.Test.YtndpnlpidphflaaWQPut
import Derived.Test.YtndpnlpidphflaaWApart
import Derived.Test.YtndpnlpidphflaaWArr
import Derived.Test.YtndpnlpidphflaaWZeros
import Derived.Test.YtndpnlpidphflaaWFoot
import Derived.Test.YtndpnlpidphflaaWKept
import Derived.Test.YtndpnlpidphflaaWShare
import Derived.Test.YtndpnlpidphflaaWN
import Derived.Test.YtndpnlpidphflaaWFootNe
import Derived.Test.YtndpnlpidphflaaWAt
import Derived.Test.YtndpnlpidphflaaWEqStruct
import Derived.Test.YtndpnlpidphflaaWRepsOne
import Derived.Test.YtndpnlpidphflaaWInv
import Derived.Test.YtndpnlpidphflaaWInvWords
import Derived.Test.YtndpnlpidphflaaWGuard
import Derived.Test.YtndpnlpidphflaaWNEv
import Derived.Test.YtndpnlpidphflaaWMore
import Derived.Test.YtndpnlpidphflaaHandA
import Derived.Deep.RegionLaw
import Derived.Laws.CopyOwn
namespace Go.Proofs.Ytndpnlpidphflaa.Hand
open Go.RowKit Go.Proofs.YtndpnlpidphflaaW.PrintWords Go.Proofs.YtndpnlpidphflaaW.PrintLast Go.Proofs.YtndpnlpidphflaaW.PrintMore
set_option linter.unusedVariables false
set_option linter.unusedSimpArgs false

/-- copy, exactly, as one step of a region that draws its order. -/
theorem step_copy_exact {P : Program} {ops : Array Oper} {o : Oper} {a : Act} {w : World} {K : Act → World → Prop} {Q : Exit → Act → World → Prop} {E : Prop} (hgd : o.guard = none) (d s : Operand) (dT sT : TypeId)
    (ho : o.op = .call { callee := .builtin .copy, args := #[d, s], argTypes := #[dT, sT] }) (elem : TypeId) (hu : P.underlying dT = some (.slice elem)) (hsz : (P.info? elem).map (·.size) = some 1)
    (dp sp : Option Addr) (dLen dCap sLen sCap : Nat) (hd : a.eval d = .slice dp dLen dCap) (hs : a.eval s = .slice sp sLen sCap)
    (g off : Nat) (cur : List Value) (t : TypeId) (hg : w.heap[g]? = some (.cells cur.toArray t (0, 0))) (cs : List Value) (hn : cs.length = Nat.min sLen dLen)
    (hpos : 0 < cs.length → dp = some ⟨g, off, none⟩ ∧ ∃ ad, sp = some ad ∧ ∀ j v, cs[j]? = some v → w.cell? (ad.add j) = some v)
    (hfit : off + cs.length ≤ cur.length) (h1 : ∀ v ∈ cs, v.oneCell' = true)
    (h : ∀ w', Aside0 (w' = w.setRow g (cur.take off ++ cs ++ cur.drop (off + cs.length)).toArray) → K (a.put o.dst (goInt cs.length)) w') :
    if Region.wanted o (yielded ops a.tmps) = true then Oper.wp P o a w K Q else E := by
  have hw : Region.wanted o (yielded ops a.tmps) = true := by simp [Region.wanted, hgd]
  rw [if_pos hw]
  by_cases h0 : cs.length = 0
  · obtain rfl : cs = [] := List.eq_nil_of_length_eq_zero h0
    have hrun := run_copy_none (P := P) w dT sT o.type elem dp sp dLen dCap sLen sCap hu hsz (by simpa using hn.symm)
    unfold Oper.wp
    simp [execOp, ho, resolve, invoke, builtin, hd, hs, hrun, Result.andThen]
    refine h w ⟨?_⟩
    simp only [List.append_nil, List.length_nil, Nat.add_zero, List.take_append_drop]
    exact (setRow_self w g _ t _ hg).symm
  · obtain ⟨rfl, ad, rfl, hsrc⟩ := hpos (by omega)
    have hrun := run_copy_row (P := P) w dT sT o.type elem g off dLen dCap ad sLen sCap cur.toArray t cs hu hsz hg hn hsrc (by simpa using hfit) h1
    unfold Oper.wp
    simp [execOp, ho, resolve, invoke, builtin, hd, hs, hrun, Result.andThen]
    exact h _ ⟨by rw [List.append_assoc]⟩

def PRel (w wr : World) (vl vo : Value) (k : Int) (n i : Nat) : Prop :=
  ∃ g cap cur, vl = .slice (some ⟨g, 0, none⟩) (n - i) cap ∧ w.heap.size ≤ g ∧ wr.heap[g]? = some (.cells cur 3 (0, 0)) ∧ cur.toList.take (n - i) = nums .i64 (jst k n i).2.2 ∧ n - i ≤ cap ∧ cur.size = cap ∧ cap ≤ 9223372036854775807 ∧
    wr.ownsRow w.heap.size 3 1 vo i (nums .i64 (jst k n i).1) ∧ vo.ownBlock ≠ some g ∧ Below w.heap.size w wr

theorem prel_start {w wr : World} {v : Value} {k : Int} {n : Nat} (hn : 1 ≤ n) (h : wr.ownsRow w.heap.size 3 1 v n (nums .i64 (ids n))) (hb : Below w.heap.size w wr) : PRel w wr v (.slice none 0 0) k n 0 := by
  rcases h.2 with ⟨_, h0⟩ | ⟨g, cap, cur, rfl, hg, hh, hnc, hcap, hcs, ht⟩
  · omega
  · refine ⟨g, cap, cur, rfl, hg, hh, ?_, hnc, by simpa using hcs, by unfold maxLen at hcap; omega, own_nil _ _ _ _, by simp [Value.ownBlock], hb⟩
    simpa [jst] using ht

theorem prel_step {w wr w3 w4 : World} {vo v' : Value} {k : Int} {n i g cap L x : Nat} {cur : Array Value} {o : Obj} (hL : L = n - i) (hi : i < n) (hl : (jst k n i).2.2.length = L) (hxl : x < L)
    (hx : ((jst k n i).2.1 + k - 1) % (L : Int) = x) (hgB : w.heap.size ≤ g) (hleft : cur.toList.take L = nums .i64 (jst k n i).2.2) (hLc : L ≤ cap) (hcs : cur.size = cap) (hcm : cap ≤ 9223372036854775807)
    (hne : vo.ownBlock ≠ some g) (hg : wr.heap[g]? = some (.cells cur 3 (0, 0))) (hbel : Below w.heap.size w wr) (hbase : ∀ b, vo.ownBlock = some b → w.heap.size ≤ b)
    (hg3 : w3.heap[g]? = some (.cells cur 3 (0, 0))) (hown : w3.ownsRow w.heap.size 3 1 v' (i + 1) (nums .i64 (jst k n i).1 ++ [.int .i64 ((jst k n i).2.2.getD x 0)])) (hgr : (wr.alloc o).grownBy w3 vo.ownBlock) (hat : v'.ownBlock = vo.ownBlock ∨ ∃ b, v'.ownBlock = some b ∧ wr.heap.size ≤ b)
    (hw4 : w4 = w3.drew.setRow g (cur.toList.take x ++ nums .i64 ((jst k n i).2.2.drop (x + 1)) ++ cur.toList.drop (x + (nums .i64 ((jst k n i).2.2.drop (x + 1))).length)).toArray) :
    PRel w w4 (.slice (some ⟨g, 0, none⟩) (L - 1) cap) v' k n (i + 1) := by
  have hgl := blk_lt hg
  have hne' : v'.ownBlock ≠ some g := by
    rcases hat with h | ⟨b, h, hb⟩
    · rw [h]; exact hne
    · rw [h]; intro e; have := Option.some.inj e; omega
  have ej : jst k n (i + 1) = ((jst k n i).1 ++ [(jst k n i).2.2.getD x 0], (x : Int), (jst k n i).2.2.eraseIdx x) := by
    simp only [jst, hl, hx, Int.toNat_natCast]
  have e1 : n - (i + 1) = L - 1 := by omega
  have hlen : (nums .i64 ((jst k n i).2.2.drop (x + 1))).length = L - (x + 1) := by rw [nums_length, List.length_drop, hl]
  have other : ∀ b, b ≠ g → w4.heap[b]? = w3.heap[b]? := fun b hb => by rw [hw4]; exact setRow_other _ _ _ _ hb
  refine ⟨g, cap, _, by rw [e1], hgB, by rw [hw4]; exact setRow_heap w3.drew g cur _ 3 (0, 0) hg3, ?_, by omega, ?_, hcm, ?_, hne', ?_⟩
  · rw [e1, ej]
    simp only [List.eraseIdx_eq_take_drop_succ, nums_append]
    have ht : cur.toList.take x = nums .i64 ((jst k n i).2.2.take x) := by
      have := congrArg (List.take x) hleft
      rw [List.take_take, Nat.min_eq_left (by omega)] at this
      rw [this]; simp [nums, List.map_take]
    rw [ht, List.take_append_of_le_length (by rw [List.length_append, nums_length, hlen, List.length_take, hl]; omega), List.take_of_length_le (by rw [List.length_append, nums_length, hlen, List.length_take, hl]; omega)]
  · simp only [List.size_toArray, List.length_append, hlen, List.length_take, List.length_drop, Array.length_toList]; omega
  · rw [ej]
    simp only [nums_append]
    exact own_move hown (fun b hb => other b (fun e => hne' (by rw [hb, e])))
  · have h1 : Below w.heap.size w w3 := pw_below_grown (below_alloc hbel o) _ (by have := hbel.size; simp; omega) hgr hbase
    exact ⟨by rw [hw4]; exact h1.os, by rw [hw4]; exact h1.tape, by rw [hw4]; exact h1.output, by
      have := h1.size
      rw [hw4]; show w.heap.size ≤ (w3.heap.modify g _).size; rw [Array.size_modify]; exact this, fun b hb => (other b (by omega)).trans (h1.block b hb)⟩

set_option maxHeartbeats 2000000 in
set_option maxRecDepth 100000 in
theorem played_any (n many : Nat) (k : Int) (w : World) (hn0 : 1 ≤ n) (hn : n ≤ 1000000) (hmany : many ≤ n) (hk0 : 1 ≤ k) (hk1 : k ≤ 1000000) :
    Calls Try.prog 34 #[.int .i64 n, .int .i64 k, .int .i64 many] w fun e w' => ∃ vl v : Value, e = .returned v ∧ PRel w w' vl v k n many := by
  have info3 : (Try.prog.info? 3).map (fun i => (i.zero, i.size, i.bytes)) = some (some (.int .i64 0), 1, 8) := by kernel_rfl
  obtain ⟨i0, hi, hz0, hz1, hz2⟩ := info_parts info3
  go_enter Try.func34, Try.ntmps34
  go_wp2
  go_loopw [7, 9] (fun v i wr => ∃ j : Nat, j ≤ n ∧ i = .int .i64 j ∧ Aside0 (wr.ownsRow w.heap.size 3 1 v j (nums .i64 (ids j)) ∧ Below w.heap.size w wr)) (fun _ i _ => n - (intOf i).toNat)
  case atStart => exact ⟨0, Nat.zero_le _, rfl, ⟨own_nil _ _ _ _, Below.refl _ _⟩⟩
  case round =>
    obtain ⟨j, hj, rfl, HF⟩ := hrel
    by_cases hlt : j < n
    · have HO := Aside0.mk HF.out.1
      have HB := Aside0.mk HF.out.2
      go_wp2_with (at_builtin; refine wpList_append_own _ rfl _ _ 37 rfl w.heap.size 3 i0 (.int .i64 0) 1 8 Try.underlying37 hi hz0 hz1 hz2 rfl (by decide) _ _ _ rfl (HO.out.alloc _) ⟨wr.heap.size, 0, none⟩ 1 1 [.int .i64 (j : Int)] rfl rfl ?c1 ?c2 ?c3 ?c4 ?c5 ?_)
      case c1 => exact cell_one_new _ _ _
      case c2 => intro u hu; simp at hu; subst hu; rfl
      case c3 => unfold maxLen; omega
      case c4 => omega
      case c5 => have := HB.out.size; simp; omega
      intro v' w3 hown3 hgrow3 _
      have HN : Aside0 (w3.ownsRow w.heap.size 3 1 v' (j + 1) (nums .i64 (ids (j + 1))) ∧ Below w.heap.size w w3) := ⟨by rw [ids_succ, nums_append]; exact hown3, pw_below_grown (below_alloc HB.out _) _ (by have := HB.out.size; simp; omega) hgrow3 (fun g hg => own_base HO.out g hg)⟩
      clear hown3 hgrow3
      go_wp2
      go_roundw
      case rel => exact ⟨j + 1, by omega, by go_num, HN⟩
      case measure => simp [intOf]; omega
    · obtain rfl : j = n := by omega
      have HO := Aside0.mk HF.out.1
      have HB := Aside0.mk HF.out.2
      clear HF
      go_wp2
      go_loopg [7, 8, 10] many (fun q vl vo va wr => ∃ i : Nat, i + q = many ∧ va = .int .i64 (jst k j i).2.1 ∧ Aside0 (PRel w wr vl vo k j i))
      case atStart =>
        exact ⟨0, by omega, rfl, ⟨prel_start hn0 HO.out HB.out⟩⟩
      case round =>
        obtain ⟨i, hiq, rfl, HP⟩ := hrel
        have hR := HP.out
        obtain ⟨g, cap, cur, rfl, hgB, hgc, hleft, hncap, hcur, hcapm, hout, hne, hbel⟩ := hR
        obtain ⟨Ao, co, rfl, hRo⟩ := own_reads hout
        by_cases hlt : i < many
        · obtain ⟨q, rfl⟩ : ∃ q, gk = q + 1 := ⟨gk - 1, by omega⟩
          obtain ⟨L, hL⟩ : ∃ L, L = j - i := ⟨_, rfl⟩
          rw [← hL] at hleft hncap ⊢
          have hl := jst_left k j i (by omega)
          rw [← hL] at hl
          have ha := jst_at k j i (by omega)
          have hm := mod_at (a := (jst k j i).2.1 + k - 1) (n := L) (by omega)
          obtain ⟨x, hx⟩ : ∃ x : Nat, ((jst k j i).2.1 + k - 1) % (L : Int) = (x : Int) := ⟨_, (Int.toNat_of_nonneg hm.1).symm⟩
          have hxl : x < L := by omega
          have cX : wr.cell? ⟨g, x, none⟩ = some (.int .i64 ((jst k j i).2.2.getD x 0)) := by
            rw [blk_cell hgc]
            have h1 : cur[x]? = (cur.toList.take L)[x]? := by rw [List.getElem?_take_of_lt hxl]; simp
            rw [h1, hleft]
            simp [nums, show x < (jst k j i).2.2.length by omega]
          have HO1 := Aside0.mk hout
          have HG := Aside0.mk hgc
          have HL := Aside0.mk hleft
          have HE := Aside0.mk hL
          have HBl := Aside0.mk hbel
          have HNe := Aside0.mk hne
          have HX := Aside0.mk hx
          have Hl := Aside0.mk hl
          clear hout hgc hleft hL hbel hne hl hRo HO HB HP
          go_wp2_with (at_builtin; refine wpList_append_own_at _ rfl _ _ 37 rfl w.heap.size 3 i0 (.int .i64 0) 1 8 Try.underlying37 hi hz0 hz1 hz2 rfl (by decide) _ _ _ rfl (HO1.out.alloc _) ⟨wr.heap.size, 0, none⟩ 1 1 [.int .i64 ((jst k j i).2.2.getD x 0)] rfl rfl ?d1 ?d2 ?d3 ?d4 ?d5 ?_)
          case d1 => exact cell_one_new _ _ _
          case d2 => intro u hu; simp at hu; subst hu; rfl
          case d3 => unfold maxLen; omega
          case d4 => omega
          case d5 => have := HBl.out.size; simp; omega
          intro v' w3 hown3 hgrow3 _ hat3
          have HA3 := Aside0.mk hat3
          clear hat3
          have hg3 : w3.heap[g]? = some (.cells cur 3 (0, 0)) := blk_grown (alloc_old HG.out) hgrow3 (fun e => HNe.out e.symm)
          have HO3 := Aside0.mk hown3
          have HGr := Aside0.mk hgrow3
          have HG3 := Aside0.mk hg3
          clear hown3 hgrow3 cX hg3
          have hcsl : (nums .i64 ((jst k j i).2.2.drop (x + 1))).length = L - (x + 1) := by rw [nums_length, List.length_drop, Hl.out]
          obtain ⟨A, hA, hcs⟩ : ∃ A : Addr, (if cap = x + 1 then some (⟨g, 0, none⟩ : Addr) else some ⟨g, x + 1, none⟩) = some A ∧ Aside0 (∀ m u, (nums .i64 ((jst k j i).2.2.drop (x + 1)))[m]? = some u → w3.drew.cell? (A.add m) = some u) := by
            by_cases h : cap = x + 1
            · refine ⟨⟨g, 0, none⟩, by simp [h], ⟨fun m u hu => ?_⟩⟩
              have := (List.getElem?_eq_some_iff.1 hu).1
              omega
            · refine ⟨⟨g, x + 1, none⟩, by simp [h], ⟨fun m u hu => ?_⟩⟩
              have hml := (List.getElem?_eq_some_iff.1 hu).1
              rw [Addr.add_lit]
              show w3.cell? _ = _
              rw [blk_cell HG3.out, ← hu]
              have h1 : cur[x + 1 + m]? = (cur.toList.take L)[x + 1 + m]? := by rw [List.getElem?_take_of_lt (by omega)]; simp
              rw [h1, HL.out]
              simp [nums]
          have s1 : Aside0 ((nums .i64 ((jst k j i).2.2.drop (x + 1))).length = Nat.min (L - (x + 1)) (L - x)) := ⟨by rw [hcsl]; simp only [Nat.min_def]; split <;> omega⟩
          have s2 : Aside0 (∀ u ∈ nums .i64 ((jst k j i).2.2.drop (x + 1)), u.oneCell' = true) := ⟨by
            intro u hu
            obtain ⟨y, _, rfl⟩ := List.mem_map.1 hu
            rfl⟩
          have s3 : Aside0 (x + (nums .i64 ((jst k j i).2.2.drop (x + 1))).length ≤ cur.toList.length) := ⟨by rw [hcsl, Array.length_toList]; omega⟩
          have hsz : (Try.prog.info? 3).map (·.size) = some 1 := by rw [hi]; simp [hz1]
          have hsz' := Aside0.mk hsz
          have hG4 : Aside0 (w3.drew.heap[g]? = some (.cells cur.toList.toArray 3 (0, 0))) := ⟨by rw [Array.toArray_toList]; exact HG3.out⟩
          clear hsz hcsl
          have hcx : ¬ cap = x := by omega
          have hwr : IntKind.i64.wrap ((x : Int) + 1) = (x : Int) + 1 := by rw [IntKind.wrap_i64]; omega
          have hp0 : (0 : Int) ≤ (x : Int) + 1 := by omega
          have hp1 : (x : Int) + 1 ≤ (L : Int) := by omega
          have hp2 : ((x : Int) + 1).toNat = x + 1 := by omega
          have hp3 : (x : Int) ≤ (L : Int) := by omega
          go_wp2_with fail
          go_region_law (refine step_copy_exact rfl (.tmp 40) (.tmp 44) 37 37 rfl 3 Try.underlying37 hsz'.out (some ⟨g, x, none⟩) (some A) (L - x) (cap - x) (L - (x + 1)) (cap - (x + 1)) (by simp [Act.eval, Act.put, hcx]) (by simp [Act.eval, Act.put]) g x cur.toList 3 hG4.out (nums .i64 ((jst k j i).2.2.drop (x + 1))) s1.out (fun _ => ⟨rfl, A, rfl, hcs.out⟩) s3.out s2.out ?_; intro w4 hw4)
          have HN : Aside0 (PRel w w4 (.slice (some ⟨g, 0, none⟩) (L - 1) cap) v' k j (i + 1)) := ⟨prel_step HE.out (by omega) Hl.out hxl HX.out hgB HL.out hncap hcur hcapm HNe.out HG.out HBl.out (fun b hb => own_base HO1.out b hb) HG3.out HO3.out HGr.out (HA3.out.imp_right fun h1 => ⟨_, h1, by simp⟩) hw4.out⟩
          have hej : (jst k j (i + 1)).2.1 = (x : Int) := by simp only [jst, Hl.out, HX.out]
          have HJ := Aside0.mk hej
          clear hej hw4 hcs s1 s2 s3 HGr HO3 HG3 HE Hl HX HL HNe HG HBl HO1 HA3 hA hG4 hsz'
          go_wp2
          go_roundg q
          case measure => omega
          case rel => exact ⟨i + 1, by omega, by rw [HJ.out], HN⟩
        · obtain rfl : gk = 0 := by omega
          obtain rfl : i = many := by omega
          have HP' := HP
          clear HP hout hgc hleft hne hbel hRo hgB HO HB
          go_wp2
          go_ret
          exact ⟨_, _, rfl, HP'.out⟩

/-- 'Played' of the reference: for circles that fit. -/
def pomaderef06_Played.f (a0 a1 a2 : Int) : Option (List Int) := if 1 ≤ a0 ∧ a0 ≤ 1000000 ∧ 1 ≤ a1 ∧ a1 ≤ 1000000 ∧ 0 ≤ a2 ∧ a2 ≤ a0 then some (jst a1 a0.toNat a2.toNat).1 else none
theorem pomaderef06_Played.calls (a0 : Int) (a1 : Int) (a2 : Int) (r : List Int) (w : World) (h : pomaderef06_Played.f a0 a1 a2 = some r) :
    Calls Try.prog 34 #[.int .i64 a0, .int .i64 a1, .int .i64 a2] w fun e w' => ∃ v0_ : Value, e = .returned (v0_) ∧ Kd.R (Kd.int .i64) 3 w' w.heap.size (fun _ => True) v0_ r ∧ Below w.heap.size w w' := by
  unfold pomaderef06_Played.f at h
  split at h
  · rename_i hc
    obtain ⟨h0, h1, h2, h3, h4, h5⟩ := hc
    simp only [Option.some.injEq] at h
    subst h
    obtain ⟨n, rfl⟩ : ∃ n : Nat, a0 = (n : Int) := ⟨_, (Int.toNat_of_nonneg (by omega)).symm⟩
    obtain ⟨m, rfl⟩ : ∃ m : Nat, a2 = (m : Int) := ⟨_, (Int.toNat_of_nonneg (by omega)).symm⟩
    refine (played_any n m a1 w (by omega) (by omega) (by omega) h2 h3).mono ?_
    rintro e w' ⟨vl, v, rfl, ⟨g, cap, cur, _, _, _, _, _, _, _, hown, _, hb⟩⟩
    exact ⟨v, rfl, own_R hown (jst_out _ _ _), hb⟩
  · cases h

end Go.Proofs.Ytndpnlpidphflaa.Hand
