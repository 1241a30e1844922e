/- A part of the proof that pomadetop.TopTold returns true for every input: HandVk, HandVl, HandVm. No condition beyond those that each theorem states. -/
import Derived.Lib.Builder
import Derived.Lib.UnsafeStr
import Derived.Test.YtldohjlcckbfaaaGreatDoorK40
namespace Go.Proofs.YtldohjlcckbfaaaGreatDoor.Hand
open Go.RowKit Go.Proofs.YtldohjlcckbfaaaGreatDoorW.PrintWords Go.Proofs.YtldohjlcckbfaaaGreatDoorW.PrintLast Go.Proofs.YtldohjlcckbfaaaGreatDoorW.PrintMore
set_option linter.unusedVariables false
set_option linter.unusedSimpArgs false
open Go.Proofs.YtldohjlcckbfaaaGreatDoor.Pre
open TopSeq Go.Shelf
attribute [local go_sem] Oper.semAt_some
theorem und97 : Tryz.prog.underlying 97 = some (.pointer 100) := by kernel_rfl
set_option maxHeartbeats 1000000 in
set_option maxRecDepth 100000 in
theorem check_used (b : Nat) (w : World) (h0 : w.cell? ⟨b, 0, none⟩ = some (.pointer (some ⟨b, 0, none⟩))) :
    Calls Tryz.prog 101 #[.pointer (some ⟨b, 0, none⟩)] w fun e w' => e = .returned (.tuple #[]) ∧ w' = w := by
  obtain ⟨j, hj, _⟩ := Option.map_eq_some_iff.1 (show (Tryz.prog.info? 100).map (·.size) = some 2 by kernel_rfl)
  have hneq : ∀ w, (binOp .neq 97 (.pointer (some ⟨b, 0, none⟩)) (.pointer (some ⟨b, 0, none⟩))).run Tryz.prog w = .ok (.bool false) w := fun w => Lib.run_neq_ptr_same w _ und97 hj
  go_enter Tryz.func101, Tryz.ntmps101
  go_wp2
  go_end0
  exact ⟨rfl, rfl⟩
set_option maxHeartbeats 1000000 in
set_option maxRecDepth 100000 in
theorem check_fresh (b : Nat) (w : World) (h0 : w.cell? ⟨b, 0, none⟩ = some (.pointer none)) (hsh : w.shape? b = some (100, 2)) (hfz : w.frozen? ⟨b, 0, none⟩ = false) :
    Calls Tryz.prog 101 #[.pointer (some ⟨b, 0, none⟩)] w fun e w' => e = .returned (.tuple #[]) ∧ w' = w.setCell ⟨b, 0, none⟩ (.pointer (some ⟨b, 0, none⟩)) := by
  obtain ⟨j, hj, hjs⟩ := Option.map_eq_some_iff.1 (show (Tryz.prog.info? 100).map (·.size) = some 2 by kernel_rfl)
  have u203 : Tryz.prog.underlying 203 = some .unsafePointer := by kernel_rfl
  have hl : liesAt Tryz.prog Tryz.prog.depth 100 (2 / Tryz.prog.cellsOf 100) 0 100 1 = true := by kernel_rfl
  have hto : (convert 97 203 (.pointer (some ⟨b, 0, none⟩))).run Tryz.prog w = .ok (.pointer (some ⟨b, 0, none⟩)) w := Lib.run_to_unsafe w ⟨b, 0, none⟩ und97 u203 hj (by rw [hjs]; decide) hsh (Nat.zero_lt_succ 1)
  have hfrom : (convert 203 97 (.pointer (some ⟨b, 0, none⟩))).run Tryz.prog w = .ok (.pointer (some ⟨b, 0, none⟩)) w := Lib.run_from_unsafe w ⟨b, 0, none⟩ u203 und97 hj hsh hl
  go_enter Tryz.func101, Tryz.ntmps101
  go_wp2
  rw [run_callFunc_extern Tryz.func146 (by kernel_rfl) (by kernel_rfl) (by kernel_rfl) (e := Extern.AbiNoEscape.same) (by kernel_rfl)]
  rw [Lib.run_noEscape]
  simp only [Result.andThen]
  rw [Oper.upon_value]
  go_wp2
  go_end0
  exact ⟨rfl, rfl⟩
structure Bld (B b : Nat) (l : List UInt8) (w : World) : Prop where
  lo : B ≤ b
  at_ : ∃ p v, w.heap[b]? = some (.cells #[p, v] 100 (0, 0)) ∧ (p = .pointer none ∨ p = .pointer (some ⟨b, 0, none⟩)) ∧ w.ownsRow B 5 1 v l.length (Lib.byteCells l) ∧ (l = [] → v = .slice none 0 0)
def Apart (b : Nat) (w : World) (k : Nat) : Prop := k < w.heap.size ∧ k ≠ b ∧ ∀ n, w.cell? ⟨k, 0, none⟩ ≠ some (.int .u8 n)
theorem Bld.is {B b : Nat} {l : List UInt8} {w : World} (h : Bld B b l w) : Lib.IsBuilder 100 5 B b (Lib.byteCells l) w := by
  obtain ⟨p, v, h1, h2, h3, _⟩ := h.at_
  have hne := Lib.ownBlock_ne h3 h1 (by decide)
  have h3' : w.ownsRow B 5 1 v (Lib.byteCells l).length (Lib.byteCells l) := by rw [Lib.byteCells_length]; exact h3
  rcases h2 with rfl | rfl
  · exact .inl ⟨h.lo, v, h1, h3', hne⟩
  · exact .inr ⟨h.lo, v, h1, h3', hne⟩
theorem first_byte {w : World} {B g : Nat} {v : Value} {l : List UInt8} (h : w.ownsRow B 5 1 v l.length (Lib.byteCells l)) (hg : v.ownBlock = some g) (hl : l ≠ []) : ∃ n, w.cell? ⟨g, 0, none⟩ = some (.int .u8 n) := by
  cases l with
  | nil => exact absurd rfl hl
  | cons x t =>
    have := h.cells hg 0 (.int .u8 x.toNat) rfl
    rw [Addr.add_lit, Nat.zero_add] at this
    exact ⟨_, this⟩
set_option maxHeartbeats 4000000 in
set_option maxRecDepth 100000 in
theorem write_calls (B b : Nat) (l : List UInt8) (s : ByteArray) (hs : 0 < s.size) (hl : l.length + s.size ≤ 100000) (w : World) (h : Bld B b l w) (hB : B ≤ w.heap.size) :
    Calls Tryz.prog 57 #[.pointer (some ⟨b, 0, none⟩), .string s] w fun e w' => e = .returned (.tuple #[.int .i64 s.size, .nilIface]) ∧ Bld B b (l ++ s.data.toList) w' ∧ Below B w w' ∧ (∀ k, Apart b w k → w'.heap[k]? = w.heap[k]?) ∧ KeepsOthers w w' := by
  obtain ⟨p, v, hb, hp, hown, hnil⟩ := h.at_
  have hlo := h.lo
  have info5 : (Tryz.prog.info? 5).map (fun i => (i.zero, i.size, i.bytes)) = some (some (.int .u8 0), 1, 1) := by kernel_rfl
  obtain ⟨i0, hi0, hz0, hz1, hz2⟩ := info_parts info5
  have hne := Lib.ownBlock_ne hown hb (by decide)
  have hblt := blk_lt hb
  obtain ⟨w1, hw1, hc⟩ : ∃ w1, (w1 = w ∨ w1 = w.setCell ⟨b, 0, none⟩ (.pointer (some ⟨b, 0, none⟩))) ∧ w1.heap[b]? = some (.cells #[.pointer (some ⟨b, 0, none⟩), v] 100 (0, 0)) ∧ Calls Tryz.prog 101 #[.pointer (some ⟨b, 0, none⟩)] w fun e w' => e = .returned (.tuple #[]) ∧ w' = w1 := by
    rcases hp with rfl | rfl
    · exact ⟨_, .inr rfl, by rw [heap_setCell_same _ _ _ _ _ _ hb]; rfl, check_fresh b w (by rw [blk_cell hb]; rfl) (by simp [World.shape?, hb]) (blk_frozen hb 0)⟩
    · exact ⟨w, .inl rfl, hb, check_used b w (by rw [blk_cell hb]; rfl)⟩
  have hk1 : ∀ k, k ≠ b → w1.heap[k]? = w.heap[k]? := fun k hk => by
    rcases hw1 with rfl | rfl
    · rfl
    · exact Below.heap_setCell _ _ _ _ hk
  have hsz1 : w1.heap.size = w.heap.size := by
    rcases hw1 with rfl | rfl
    · rfl
    · simp [World.setCell]
  have hb1 : Below B w w1 := by
    rcases hw1 with rfl | rfl
    · exact Below.refl _ _
    · exact (Below.refl B w).setCell (p := ⟨b, 0, none⟩) hlo _
  have hko1 : KeepsOthers w w1 := by
    rcases hw1 with rfl | rfl
    · exact KeepsOthers.refl _
    · exact KeepsOthers.setCell _ _ _
  have hown1 : w1.ownsRow B 5 1 v l.length (Lib.byteCells l) := by
    rcases hw1 with rfl | rfl
    · exact hown
    · exact ownsRow_setCell_other hown hne _
  have hap : ∀ k, Apart b w k → k ≠ b ∧ v.ownBlock ≠ some k := fun k hk => ⟨hk.2.1, fun e => by
    by_cases hl0 : l = []
    · rw [hnil hl0] at e
      simp [Value.ownBlock] at e
    · obtain ⟨n, hn⟩ := first_byte hown e hl0
      exact hk.2.2 n hn⟩
  have HAp := Aside0.mk hap
  have HC := Aside0.mk hc.2
  have HW1 := Aside0.mk (And.intro hk1 (And.intro hsz1 (And.intro hb1 (And.intro hko1 hc.1))))
  have HOw := Aside0.mk hown1
  have HLo := Aside0.mk (And.intro hlo (And.intro hblt hB))
  have c1 : w1.cell? ⟨b, 1, none⟩ = some v := by rw [blk_cell hc.1]; rfl
  obtain ⟨ao, n0, cap0, rfl⟩ : ∃ ao n' cap, v = .slice ao n' cap := by
    rcases hown1.2 with ⟨hv, _⟩ | ⟨g, cap, cur, hv, _⟩
    · exact ⟨_, _, _, hv⟩
    · exact ⟨_, _, _, hv⟩
  clear h hb hp hown hnil hne hw1 hc hk1 hsz1 hb1 hko1 hown1 hap info5 hlo hblt hB
  go_enter Tryz.func57, Tryz.ntmps57
  go_wp2_with (first | (go_at_call 101; refine HC.out.mono ?_; rintro e w2 ⟨rfl, hw⟩; rw [hw]; clear hw w2) | (at_builtin; refine Lib.wpList_append_own_string _ rfl _ _ 98 9 rfl B 5 i0 Tryz.underlying98 Tryz.underlying9 hi0 hz0 hz1 hz2 _ _ _ rfl HOw.out s rfl ?c3 ?c4 ?c5 ?_))
  case c3 => unfold maxLen; omega
  case c4 => omega
  case c5 => have h1 := HW1.out.2.1; have h2 := HLo.out.2.2; omega
  intro v' w2 hown' hgrow hiff
  obtain ⟨ao', n', cap', rfl⟩ : ∃ ao n' cap, v' = .slice ao n' cap := by
    rcases hown'.2 with ⟨hv, _⟩ | ⟨g, cap, cur, hv, _⟩
    · exact ⟨_, _, _, hv⟩
    · exact ⟨_, _, _, hv⟩
  have hne1 := Lib.ownBlock_ne HOw.out HW1.out.2.2.2.2 (by decide)
  have hlt1 := blk_lt HW1.out.2.2.2.2
  have hb2 : w2.heap[b]? = some (.cells #[.pointer (some ⟨b, 0, none⟩), .slice ao n0 cap0] 100 (0, 0)) := (hgrow.block b hlt1 (fun e => hne1 e.symm)).trans HW1.out.2.2.2.2
  have hne2 := Lib.ownBlock_ne hown' hb2 (by decide)
  have f1 := blk_frozen hb2 1
  have d1 : w2.cell? ⟨b, 1, none⟩ = some (.slice ao n0 cap0) := by rw [blk_cell hb2]; rfl
  have HF1 := Aside0.mk (show Bld B b (l ++ s.data.toList) (w2.setCell ⟨b, 1, none⟩ (.slice ao' n' cap')) from by
    refine ⟨HLo.out.1, .pointer (some ⟨b, 0, none⟩), .slice ao' n' cap', ?_, .inr rfl, ?_, fun h => ?_⟩
    · rw [heap_setCell_same _ _ _ _ _ _ hb2]; rfl
    · rw [Lib.byteCells_append, List.length_append, ← Lib.strCells_eq]
      exact ownsRow_setCell_other hown' hne2 _
    · have := congrArg List.length h
      rw [List.length_append, List.length_nil] at this
      have h2 : s.data.toList.length = s.size := Array.length_toList
      omega)
  have hbB : Below B w (w2.setCell ⟨b, 1, none⟩ (.slice ao' n' cap')) := (HW1.out.2.2.1.grown hgrow (by have := HW1.out.2.1; have := HLo.out.2.2; omega) (fun k hk => (HOw.out.lt k hk).1)).setCell (p := ⟨b, 1, none⟩) HLo.out.1 _
  have hKO : KeepsOthers w (w2.setCell ⟨b, 1, none⟩ (.slice ao' n' cap')) := (HW1.out.2.2.2.1.trans (KeepsOthers.of_grownBy hgrow (fun j o hj ho => by
    rcases HOw.out.2 with ⟨e, _⟩ | ⟨g, cap, cur, e, _, hg, _⟩
    · rw [e] at hj; simp [Value.ownBlock] at hj
    · rw [e] at hj
      simp only [Value.ownBlock, Option.some.injEq] at hj
      subst hj
      rw [hg] at ho
      cases ho
      rfl))).trans (KeepsOthers.setCell _ _ _)
  have hAK : ∀ k, Apart b w k → (w2.setCell ⟨b, 1, none⟩ (.slice ao' n' cap')).heap[k]? = w.heap[k]? := fun k hk => by
    obtain ⟨h1, h2⟩ := HAp.out k hk
    rw [Below.heap_setCell _ _ _ _ h1, hgrow.block k (by rw [HW1.out.2.1]; exact hk.1) (fun e => h2 e.symm)]
    exact HW1.out.1 k h1
  have HF2 := Aside0.mk (And.intro hbB (And.intro hAK hKO))
  clear hown' hgrow hiff hb2 hne2 hne1 hlt1 hbB hKO hAK c1
  go_wp2
  exact bodyPost_ret (v := .tuple #[.int .i64 s.size, .nilIface]) (by simp [results, Tryz.results57, go_sem]) rfl ⟨rfl, HF1.out, HF2.out.1, HF2.out.2.1, HF2.out.2.2⟩
end Go.Proofs.YtldohjlcckbfaaaGreatDoor.Hand
namespace Go.Proofs.YtldohjlcckbfaaaGreatDoor.Hand
open Go.RowKit Go.Proofs.YtldohjlcckbfaaaGreatDoorW.PrintWords Go.Proofs.YtldohjlcckbfaaaGreatDoorW.PrintLast Go.Proofs.YtldohjlcckbfaaaGreatDoorW.PrintMore
set_option linter.unusedVariables false
set_option linter.unusedSimpArgs false
open Go.Proofs.YtldohjlcckbfaaaGreatDoor.Pre
open TopSeq Go.Shelf
attribute [local go_sem] Oper.semAt_some
def linesL : List ByteArray := [⟨#[115, 105, 116, 32, 97, 110, 110, 32, 51]⟩, ⟨#[112, 97, 121, 32, 52, 32, 52]⟩, ⟨#[116, 105, 108, 108]⟩, ⟨#[115, 97, 121, 32, 33, 97]⟩, ⟨#[108, 105, 97, 114]⟩, ⟨#[97, 114, 99, 32, 48, 32, 48]⟩, ⟨#[115, 104, 97, 118, 101]⟩, ⟨#[116, 101, 108, 108, 32, 50, 49]⟩, ⟨#[]⟩]
def lineB (k : Nat) : ByteArray := linesL.getD k ⟨#[]⟩
def restB (k : Nat) : ByteArray := ⟨(Lib.join ((linesL.drop k).map (·.data.toList)) [10]).toArray⟩
theorem rest_index : ∀ k : Fin 8, Lib.indexByte (restB k.val).data.toList 10 = ((lineB k.val).size : Int) ∧ (lineB k.val).size + 1 ≤ (restB k.val).size ∧ (restB k.val).extract 0 (lineB k.val).size = lineB k.val ∧ (restB k.val).extract ((lineB k.val).size + 1) (restB k.val).size = restB (k.val + 1) ∧ (restB k.val).size ≤ 100 ∧ (restB (k.val + 1)).size < (restB k.val).size := by decide +kernel
theorem rest_end : Lib.indexByte (restB 8).data.toList 10 = -1 ∧ restB 8 = lineB 8 := by decide +kernel
set_option maxHeartbeats 4000000 in
set_option maxRecDepth 100000 in
theorem split_calls (s : ByteArray) (w : World) :
    Calls Tryz.prog 55 #[.string s, .string ⟨#[10]⟩] w fun e w' => e = .returned (.func (.func 140) #[] #[.pointer (some ⟨w.heap.size + 1, 0, none⟩), .pointer (some ⟨w.heap.size, 0, none⟩), .pointer (some ⟨w.heap.size + 1 + 1, 0, none⟩)]) ∧ w' = ((w.alloc (.cells #[.string s] 9)).alloc (.cells #[.string ⟨#[10]⟩] 9)).alloc (.cells #[.int .i64 0] 3) := by
  have hmf : ∀ (fn : Fn) (first cap : Array Value) (w : World), (Instr.makeFunc fn first cap).run Tryz.prog w = .ok (.func fn first cap) w := fun _ _ _ _ => rfl
  have h1 : Calls Tryz.prog 93 #[.string s, .string ⟨#[10]⟩, .int .i64 0] w fun e w' => e = .returned (.func (.func 140) #[] #[.pointer (some ⟨w.heap.size + 1, 0, none⟩), .pointer (some ⟨w.heap.size, 0, none⟩), .pointer (some ⟨w.heap.size + 1 + 1, 0, none⟩)]) ∧ w' = ((w.alloc (.cells #[.string s] 9)).alloc (.cells #[.string ⟨#[10]⟩] 9)).alloc (.cells #[.int .i64 0] 3) := by
    go_enter Tryz.func93, Tryz.ntmps93
    go_wp2
    go_ret
    exact ⟨rfl, rfl⟩
  have H1 := Aside0.mk h1
  clear h1
  go_enter Tryz.func55, Tryz.ntmps55
  go_wp2_with (go_at_call 93; refine H1.out.mono ?_; rintro e w1 ⟨rfl, rfl⟩)
  go_ret
  exact ⟨rfl, rfl⟩
def SplitSt (bs : Nat) (A : World) (v : Value) : Prop := ∃ k, k < 8 ∧ A.heap[bs]? = some (.cells #[.string (restB k)] 9 (0, 0)) ∧ v = .string (restB (k + 1))
theorem keep_set {w : World} {b b' : Nat} {o : Obj} {x : Value} (h : w.heap[b]? = some o) (hne : b ≠ b') : (w.setCell ⟨b', 0, none⟩ x).heap[b]? = some o := (Below.heap_setCell _ _ _ _ hne).trans h
set_option maxHeartbeats 4000000 in
set_option maxRecDepth 100000 in
theorem split_box (bs n : Nat) (hn : 1 ≤ n) (w : World) (h1 : w.heap[bs]? = some (.cells #[.string (restB 0)] 9 (0, 0))) (h2 : w.heap[bs + 1]? = some (.cells #[.string ⟨#[10]⟩] 9 (0, 0))) (h3 : w.heap[bs + 1 + 1]? = some (.cells #[.int .i64 0] 3 (0, 0))) :
    SeqBox Fence.wide n Tryz.prog 140 #[.pointer (some ⟨bs + 1, 0, none⟩), .pointer (some ⟨bs, 0, none⟩), .pointer (some ⟨bs + 1 + 1, 0, none⟩)] (fun k => #[.string (lineB k)]) 9 bs (fun b => b = bs ∨ b = bs + 1 ∨ b = bs + 1 + 1) (SplitSt bs) w := by
  intro l J W hW _ hst hY h0
  have HST := Aside0.mk hst
  have HY := Aside0.mk hY
  have HJ := Aside0.mk h0
  have HB := Aside0.mk (And.intro (blk_below h1 hW) (And.intro (blk_below h2 hW) (blk_below h3 hW)))
  have x1 := cellAt HB.out.2.1
  clear hst hY h0 hW h1 h2 h3
  refine callsIn_of_wp Tryz.func140 rfl trivial ?_ rfl
  simp only [Tryz.ntmps140, List.size_toArray, List.length_cons, List.length_nil, Nat.reduceAdd, Nat.reduceSub, Array.replicate_succ, Array.replicate_zero, List.push_toArray, List.append_toArray, List.nil_append, List.cons_append]
  gi_wp2
  clear x1
  gi_loopw [7] (fun v7 wr => ∃ k : Nat, k ≤ 8 ∧ (k = 0 ∨ v7 = v7) ∧ Aside0 (J k wr) ∧ Aside0 (wr.heap[bs]? = some (.cells #[.string (restB k)] 9 (0, 0)) ∧ wr.heap[bs + 1]? = some (.cells #[.string ⟨#[10]⟩] 9 (0, 0)) ∧ wr.heap[bs + 1 + 1]? = some (.cells #[.int .i64 0] 3 (0, 0))))
    (fun _ wr => match wr.cell? ⟨bs, 0, none⟩ with | some (.string s) => s.size | _ => 0)
  case atStart => exact ⟨0, by decide, .inl rfl, HJ, HB⟩
  case round =>
    clear HJ HB
    obtain ⟨k, hk, _, HJ, HB⟩ := hrel
    have x0 := cellAt HB.out.1
    have x1 := cellAt HB.out.2.1
    have x2 := cellAt HB.out.2.2
    have f0 := blk_frozen HB.out.1 0
    by_cases hlt : k < 8
    · obtain ⟨g1, g2, g3, g4, g5, g6⟩ := rest_index ⟨k, hlt⟩
      simp only at g1 g2 g3 g4 g5 g6
      obtain ⟨fn, tmps, assign, body, hy, hR⟩ := HY.out k wr (by omega) HJ.out
      have HR := Aside0.mk hR
      have HN := Aside0.mk (show SplitSt bs wr (.string (restB (k + 1))) from ⟨k, hlt, HB.out.1, rfl⟩)
      have HIx := Aside0.mk (Tryz.strings_Index_one (restB k) 10 wr)
      rw [g1] at HIx
      obtain ⟨R, hRe⟩ : ∃ R, restB k = R := ⟨_, rfl⟩
      obtain ⟨R2, hR2⟩ : ∃ R, restB (k + 1) = R := ⟨_, rfl⟩
      obtain ⟨L, hL⟩ : ∃ L, lineB k = L := ⟨_, rfl⟩
      rw [hRe] at HIx x0 g2 g3 g4 g5 g6
      rw [hR2] at g4 g6
      have HR2 := Aside0.mk (And.intro hRe (And.intro hR2 g6))
      have HX0 := Aside0.mk x0
      clear g6 hRe hR2
      rw [hL] at HIx g2 g3 g4 hy
      have d1 : decide ((L.size : Int) < 0) = false := decide_eq_false (by omega)
      have hw0 : wrap64 ((L.size : Int) + 0) = (L.size : Int) := by unfold wrap64; omega
      have hw1 : wrap64 ((L.size : Int) + 1) = ((L.size + 1 : Nat) : Int) := by unfold wrap64; omega
      clear hR g1
      gi_wp2_with (refine ⟨trivial, ?_⟩; gi_at_call 142; refine (callsIn_wide.2 HIx.out).mono ?_; rintro e w5 ⟨rfl, hw⟩; rw [hw]; clear hw w5)
      refine HR.out.mono ?_
      rintro e W3 ⟨rfl, hJ3, hk3⟩
      have y1 := (hk3 bs (.inl rfl)).trans HB.out.1
      have y2 := (hk3 (bs + 1) (.inr (.inl rfl))).trans HB.out.2.1
      have y3 := (hk3 (bs + 1 + 1) (.inr (.inr rfl))).trans HB.out.2.2
      have HN3 := Aside0.mk (HST.out (k + 1) W3 (.string R2) hJ3 ⟨k, hlt, y1, by rw [HR2.out.2.1]⟩)
      have hs1 : (W3.setCell ⟨bs, 0, none⟩ (.string R2)).heap[bs]? = some (.cells #[.string (restB (k + 1))] 9 (0, 0)) := by
        rw [heap_setCell_same _ _ _ _ _ _ y1, HR2.out.2.1]; rfl
      have HY3 := Aside0.mk (And.intro hs1 (And.intro (keep_set (x := .string R2) y2 (by omega : bs + 1 ≠ bs)) (keep_set (x := .string R2) y3 (by omega : bs + 1 + 1 ≠ bs))))
      have z0 := cellAt y1
      rw [HR2.out.1] at z0
      have z1 := cellAt y2
      have z2 := cellAt y3
      have zf := blk_frozen y1 0
      clear x0 x1 x2 f0 hJ3 hk3 y1 y2 y3 hs1 hy
      gi_wp2
      go_roundw
      case rel => exact ⟨k + 1, by omega, .inr trivial, HN3, HY3⟩
      case measure =>
        have c1 := cellAt HY3.out.1
        rw [HR2.out.2.1] at c1
        rw [c1, HX0.out]
        exact HR2.out.2.2
    · obtain rfl : k = 8 := by omega
      obtain ⟨fn, tmps, assign, body, hy, hR⟩ := HY.out 8 wr (by omega) HJ.out
      have HR := Aside0.mk hR
      have HIx := Aside0.mk (Tryz.strings_Index_one (restB 8) 10 wr)
      rw [rest_end.1] at HIx
      rw [rest_end.2] at HIx x0
      obtain ⟨L, hL⟩ : ∃ L, lineB 8 = L := ⟨_, rfl⟩
      rw [hL] at HIx hy x0
      clear hR hL
      gi_wp2_with (refine ⟨trivial, ?_⟩; gi_at_call 142; refine (callsIn_wide.2 HIx.out).mono ?_; rintro e w5 ⟨rfl, hw⟩; rw [hw]; clear hw w5)
      refine HR.out.mono ?_
      rintro e W3 ⟨rfl, hJ3, hk3⟩
      have HJ3 := Aside0.mk hJ3
      clear hJ3 hk3
      gi_wp2
      go_end0
      exact ⟨⟨_, rfl⟩, HJ3.out⟩
end Go.Proofs.YtldohjlcckbfaaaGreatDoor.Hand
namespace Go.Proofs.YtldohjlcckbfaaaGreatDoor.Hand
open Go.RowKit Go.Proofs.YtldohjlcckbfaaaGreatDoorW.PrintWords Go.Proofs.YtldohjlcckbfaaaGreatDoorW.PrintLast Go.Proofs.YtldohjlcckbfaaaGreatDoorW.PrintMore
set_option linter.unusedVariables false
set_option linter.unusedSimpArgs false
open Go.Proofs.YtldohjlcckbfaaaGreatDoor.Pre
open TopWords TopSeq Go.Shelf
theorem lSit_ne (k : Nat) (hk : k < 8) : restB k ≠ lSit ∧ restB k ≠ ⟨#[33, 97]⟩ := by
  have : ∀ k : Fin 8, restB k.val ≠ lSit ∧ restB k.val ≠ ⟨#[33, 97]⟩ := by decide +kernel
  exact this ⟨k, hk⟩
def plainV (x : Value) : Prop := (∃ i, x = .int .i64 i) ∨ x = .string ⟨#[33, 97]⟩ ∨ x = .string lSit
structure Sh.Plain (S : Sh) : Prop where
  sents : ∀ x, S.sents[0]? = some x → plainV x
  arcs : ∀ x, S.arcs[0]? = some x → plainV x
  coins : ∀ x, S.coins[0]? = some x → plainV x
  amts : ∀ x, S.amts[0]? = some x → plainV x
  book : ∀ x, S.book[0]? = some x → plainV x
theorem LAt.keepP {w w' : World} {size n : Nat} {v : Value} {xs : List Value} (h : LAt w size v xs n) (hp : ∀ x, xs[0]? = some x → plainV x) (hk : ∀ g x, w.cell? ⟨g, 0, none⟩ = some x → plainV x → w'.heap[g]? = w.heap[g]?) : LAt w' size v xs n := by
  refine ⟨h.len, h.one, h.lies.imp id fun ⟨g, c, h1, h2, h3, h4⟩ => ⟨g, c, h1, h2, h3, fun j u hj => ?_⟩⟩
  have hl : 0 < xs.length := by
    have := (List.getElem?_eq_some_iff.1 hj).1
    omega
  have h0 := List.getElem?_eq_getElem hl
  have h5 := h4 0 _ h0
  rw [show w'.cell? ⟨g, j, none⟩ = w.cell? ⟨g, j, none⟩ from cells_eq (hk g _ h5 (hp _ h0))]
  exact h4 j u hj
theorem ShopAt.keepP {w w' : World} {p : Nat} {S : Sh} (h : ShopAt w p S) (hS : S.Plain) (hp : w'.heap[p]? = w.heap[p]?) (hk : ∀ g x, w.cell? ⟨g, 0, none⟩ = some x → plainV x → w'.heap[g]? = w.heap[g]?) : ShopAt w' p S := by
  obtain ⟨vs, va, vc, vm, vb, h0, h1, h2, h3, h4, h5⟩ := h.at_
  exact ⟨h.ok, vs, va, vc, vm, vb, hp.trans h0, h1.keepP hS.sents hk, h2.keepP hS.arcs hk, h3.keepP hS.coins hk, h4.keepP hS.amts hk, h5.keepP hS.book hk⟩
def shK : Nat → Sh
  | 0 => sh0
  | 1 => shA
  | 2 => shB
  | 3 => shB
  | 4 => shC
  | 5 => shC
  | _ => shD
theorem plain_nil {x : Value} (h : ([] : List Value)[0]? = some x) : plainV x := by simp at h
theorem plain_int {x : Value} {i : Int} {l : List Value} (h : (Value.int .i64 i :: l)[0]? = some x) : plainV x := by
  simp only [List.getElem?_cons_zero, Option.some.injEq] at h
  exact .inl ⟨i, h.symm⟩
theorem plain_sent {x : Value} {l : List Value} (h : (Value.string ⟨#[33, 97]⟩ :: l)[0]? = some x) : plainV x := by
  simp only [List.getElem?_cons_zero, Option.some.injEq] at h
  exact .inr (.inl h.symm)
theorem plain_book {x : Value} {l : List Value} (h : (Value.string lSit :: l)[0]? = some x) : plainV x := by
  simp only [List.getElem?_cons_zero, Option.some.injEq] at h
  exact .inr (.inr h.symm)
theorem sh0_plain : sh0.Plain := ⟨fun _ h => plain_nil h, fun _ h => plain_nil h, fun _ h => plain_int h, fun _ h => plain_nil h, fun _ h => plain_nil h⟩
theorem shA_plain : shA.Plain := ⟨fun _ h => plain_nil h, fun _ h => plain_nil h, fun _ h => plain_int h, fun _ h => plain_nil h, fun _ h => plain_book h⟩
theorem shB_plain : shB.Plain := ⟨fun _ h => plain_nil h, fun _ h => plain_nil h, fun _ h => plain_int h, fun _ h => plain_int h, fun _ h => plain_book h⟩
theorem shC_plain : shC.Plain := ⟨fun _ h => plain_sent h, fun _ h => plain_nil h, fun _ h => plain_int h, fun _ h => plain_int h, fun _ h => plain_book h⟩
theorem shD_plain : shD.Plain := ⟨fun _ h => plain_sent h, fun _ h => plain_int h, fun _ h => plain_int h, fun _ h => plain_int h, fun _ h => plain_book h⟩
theorem shK_plain (k : Nat) : (shK k).Plain := by
  unfold shK
  split
  · exact sh0_plain
  · exact shA_plain
  · exact shB_plain
  · exact shB_plain
  · exact shC_plain
  · exact shC_plain
  · exact shD_plain
def repB (k : Nat) : ByteArray := [⟨#[51]⟩, ⟨#[48]⟩, ⟨#[49, 32, 49, 32, 49]⟩, ⟨#[97]⟩, ⟨#[97]⟩, ⟨#[111, 107]⟩, ⟨#[110, 111, 110, 101]⟩, ⟨#[49]⟩].getD k ⟨#[]⟩
def outL (k : Nat) : List UInt8 := (List.range (min k 8)).flatMap fun j => (repB j).data.toList ++ [10]
set_option maxHeartbeats 4000000 in
set_option maxRecDepth 100000 in
theorem trim_none (w : World) : Calls Tryz.prog 56 #[.string ⟨#[]⟩, .string ⟨#[32]⟩] w fun e w' => e = .returned (.string ⟨#[]⟩) ∧ Below w.heap.size w w' := by
  refine (Any.strings_Trim_laid Tryz.lays160 (by kernel_rfl) ⟨#[]⟩ ⟨#[32]⟩ _ (by decide) (by decide) (ascii_of_all (by decide))).mono ?_
  rintro e w3 ⟨rfl, hb⟩
  exact ⟨by rw [show (⟨(Lib.trimS (ByteArray.mk #[]).data.toList (ByteArray.mk #[32]).data.toList).toArray⟩ : ByteArray) = ⟨#[]⟩ by decide +kernel], hb⟩
set_option maxHeartbeats 4000000 in
set_option maxRecDepth 100000 in
theorem parse_none (w : World) : Calls Tryz.prog 33 #[.string ⟨#[]⟩] w fun e w' => e = .returned (.iface 113 (.string ⟨#[]⟩)) ∧ Below w.heap.size w w' := by
  have HT := Aside0.mk (trim_none w)
  go_enter Tryz.func33, Tryz.ntmps33
  go_wp2_with (go_at_call 56; refine HT.out.mono ?_; rintro e w1 ⟨rfl, hb1⟩; have HB1 := Aside0.mk hb1; clear hb1)
  go_ret
  exact ⟨rfl, HB1.out⟩
set_option maxHeartbeats 4000000 in
set_option maxRecDepth 100000 in
theorem said_none (v : Value) (w : World) : Calls Tryz.prog 278 #[.string ⟨#[]⟩, v] w fun e w' => e = .returned (.tuple #[.string ⟨#[]⟩, .int .i64 0]) ∧ w' = w := by
  go_enter Tryz.func278, Tryz.ntmps278
  go_wp2
  exact bodyPost_ret (v := .tuple #[.string ⟨#[]⟩, .int .i64 0]) (by simp [results, Tryz.results278, go_sem]) rfl ⟨rfl, rfl⟩
set_option maxHeartbeats 4000000 in
set_option maxRecDepth 100000 in
theorem exec_none (w : World) (p : Nat) (S : Sh) (hs : ShopAt w p S) :
    Calls Tryz.prog 14 #[.pointer (some ⟨p, 0, none⟩), .string ⟨#[]⟩] w fun e w' => e = .returned (.string ⟨#[]⟩) ∧ Below w.heap.size w w' := by
  have HOK := Aside0.mk (ok_calls p S w hs)
  have HP := Aside0.mk (parse_none w)
  have hm : ∀ w v, (method 429 113 v "pomade/shop.on").run Tryz.prog w = .ok (278, v) w := fun _ _ => by kernel_rfl
  clear hs
  go_enter Tryz.func14, Tryz.ntmps14
  go_wp2_with (first | (go_at_call 32; refine HOK.out.mono ?_; rintro e w0 ⟨rfl, rfl⟩) | (go_at_call 33; refine HP.out.mono ?_; rintro e w1 ⟨rfl, hb1⟩; have HB1 := Aside0.mk hb1; clear hb1) | (go_at_call 278; refine (said_none _ _).mono ?_; rintro e w2 ⟨rfl, hw⟩; rw [hw]; clear hw w2))
  go_ret
  exact ⟨rfl, HB1.out⟩
theorem line_is : lineB 0 = lSit ∧ lineB 1 = lPay ∧ lineB 3 = lSay ∧ lineB 5 = lArc ∧ lineB 7 = lineOf [⟨#[116, 101, 108, 108]⟩, ⟨#[50, 49]⟩] := by decide +kernel
theorem word_21 : wordB ⟨#[50, 49]⟩ := by unfold wordB; decide
theorem tell_21 : tellF ⟨#[50, 49]⟩ = ⟨#[49]⟩ := by decide +kernel
theorem exec_k (k : Nat) (hk : k < 9) (w : World) (hG : Glob w) (p : Nat) (hs : ShopAt w p (shK k)) :
    Calls Tryz.prog 14 #[.pointer (some ⟨p, 0, none⟩), .string (lineB k)] w fun e w' => e = .returned (.string (repB k)) ∧ ShopAt w' p (shK (k + 1)) ∧ Turn p w w' := by
  have look : ∀ {r : ByteArray} {l : ByteArray} {S : Sh}, ShopAt w p S → Calls Tryz.prog 14 #[.pointer (some ⟨p, 0, none⟩), .string l] w (fun e w' => e = .returned (.string r) ∧ Below w.heap.size w w') →
      Calls Tryz.prog 14 #[.pointer (some ⟨p, 0, none⟩), .string l] w fun e w' => e = .returned (.string r) ∧ ShopAt w' p S ∧ Turn p w w' :=
    fun hS h => h.mono fun e w' ⟨h1, h2⟩ => ⟨h1, hS.below h2, Turn.of_below h2⟩
  have hk9 : k = 0 ∨ k = 1 ∨ k = 2 ∨ k = 3 ∨ k = 4 ∨ k = 5 ∨ k = 6 ∨ k = 7 ∨ k = 8 := by omega
  rcases hk9 with rfl | rfl | rfl | rfl | rfl | rfl | rfl | rfl | rfl
  · rw [line_is.1]; exact exec_sit w hG p hs
  · rw [line_is.2.1]; exact exec_pay w hG p hs
  · exact look hs (exec_till w hG p shB rfl hs)
  · rw [line_is.2.2.1]; exact exec_say w hG p hs
  · exact look hs (exec_liar w hG p hs)
  · rw [line_is.2.2.2.1]; exact exec_arc w hG p hs
  · exact look hs (exec_shave w hG p hs)
  · rw [line_is.2.2.2.2]
    refine look hs ?_
    have := exec_tell ⟨#[50, 49]⟩ word_21 (by decide) w hG p shD hs
    rw [tell_21] at this
    exact this
  · exact look hs (exec_none w p shD hs)
end Go.Proofs.YtldohjlcckbfaaaGreatDoor.Hand
