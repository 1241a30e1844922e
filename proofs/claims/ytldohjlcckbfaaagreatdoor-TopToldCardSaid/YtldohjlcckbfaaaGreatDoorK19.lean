/- A part of the proof that pomadetop.TopTold returns true for every input: HandWa, HandWb, HandWc. No condition beyond those that each theorem states. -/
import Derived.Laws.CopyOwn
import Derived.Test.YtldohjlcckbfaaaGreatDoorK17
import Derived.Test.YtldohjlcckbfaaaGreatDoorK18
namespace Go.Proofs.YtldohjlcckbfaaaGreatDoor.Hand
open Go.RowKit Go.Proofs.YtldohjlcckbfaaaGreatDoorW.PrintWords Go.Proofs.YtldohjlcckbfaaaGreatDoorW.PrintLast Go.Proofs.YtldohjlcckbfaaaGreatDoorW.PrintMore
set_option linter.unusedVariables false
set_option linter.unusedSimpArgs false
open Go.Proofs.YtldohjlcckbfaaaGreatDoor.Pre
theorem step_copy_exact {P : Program} {ops : Array Oper} {o : Oper} {a : Act} {w : World} {K : Act → World → Prop} {Q : Exit → Act → World → Prop} {E : Prop} (hgd : o.guard = none) (d s : Operand) (dT sT : TypeId)
    (ho : o.op = .call { callee := .builtin .copy, args := #[d, s], argTypes := #[dT, sT] }) (elem : TypeId) (hu : P.underlying dT = some (.slice elem)) (hsz : (P.info? elem).map (·.size) = some 1)
    (dp sp : Option Addr) (dLen dCap sLen sCap : Nat) (hd : a.eval d = .slice dp dLen dCap) (hs : a.eval s = .slice sp sLen sCap)
    (g off : Nat) (cur : List Value) (t : TypeId) (hg : w.heap[g]? = some (.cells cur.toArray t (0, 0))) (cs : List Value) (hn : cs.length = Nat.min sLen dLen)
    (hpos : 0 < cs.length → dp = some ⟨g, off, none⟩ ∧ ∃ ad, sp = some ad ∧ ∀ j v, cs[j]? = some v → w.cell? (ad.add j) = some v)
    (hfit : off + cs.length ≤ cur.length) (h1 : ∀ v ∈ cs, v.oneCell' = true)
    (h : ∀ w', Aside0 (w' = w.setRow g (cur.take off ++ cs ++ cur.drop (off + cs.length)).toArray) → K (a.put o.dst (goInt cs.length)) w') :
    if Region.wanted o (yielded ops a.tmps) = true then Oper.wp P o a w K Q else E := by
  have hw : Region.wanted o (yielded ops a.tmps) = true := by simp [Region.wanted, hgd]
  rw [if_pos hw]
  by_cases h0 : cs.length = 0
  · obtain rfl : cs = [] := List.eq_nil_of_length_eq_zero h0
    have hrun := run_copy_none (P := P) w dT sT o.type elem dp sp dLen dCap sLen sCap hu hsz (by simpa using hn.symm)
    unfold Oper.wp
    simp [execOp, ho, resolve, invoke, builtin, hd, hs, hrun, Result.andThen]
    refine h w ⟨?_⟩
    simp only [List.append_nil, List.length_nil, Nat.add_zero, List.take_append_drop]
    exact (setRow_self w g _ t _ hg).symm
  · obtain ⟨rfl, ad, rfl, hsrc⟩ := hpos (by omega)
    have hrun := run_copy_row (P := P) w dT sT o.type elem g off dLen dCap ad sLen sCap cur.toArray t cs hu hsz hg hn hsrc (by simpa using hfit) h1
    unfold Oper.wp
    simp [execOp, ho, resolve, invoke, builtin, hd, hs, hrun, Result.andThen]
    exact h _ ⟨by rw [List.append_assoc]⟩
def repL (m k : Nat) : List Int := List.replicate k (-1) ++ List.replicate (m - k) 0
theorem repL_length {m k : Nat} (h : k ≤ m) : (repL m k).length = m := by unfold repL; simp; omega
theorem repL_zero (m : Nat) : repL m 0 = List.replicate m 0 := by simp [repL]
theorem repL_all (m : Nat) : repL m m = List.replicate m (-1) := by simp [repL]
theorem repL_step {m k c : Nat} (h : k + c ≤ m) : ((nums .i64 (repL m k)).take k ++ nums .i64 (List.replicate c (-1)) ++ (nums .i64 (repL m k)).drop (k + c)) = nums .i64 (repL m (k + c)) := by
  unfold repL nums
  rw [← List.map_take, ← List.map_drop, ← List.map_append, ← List.map_append]
  congr 1
  rw [List.take_append_of_le_length (by simp), List.take_of_length_le (by simp), List.drop_append, List.drop_eq_nil_of_le (by simp), List.nil_append, List.length_replicate, List.drop_replicate, List.replicate_append_replicate]
  congr 1
  congr 1
  omega
set_option maxHeartbeats 4000000 in
set_option maxRecDepth 100000 in
theorem repeat_calls (m : Nat) (h1 : 1 ≤ m) (h2 : m ≤ 1000) (gs : Nat) (w : World) (hc : w.cell? ⟨gs, 0, none⟩ = some (.int .i64 (-1))) :
    Calls Tryz.prog 129 #[.slice (some ⟨gs, 0, none⟩) 1 1, .int .i64 m] w fun e w' => e = .returned (.slice (some ⟨w.heap.size, 0, none⟩) m m) ∧ w'.heap[w.heap.size]? = some (intsO (List.replicate m (-1))) ∧ Below w.heap.size w w' := by
  have info3 : (Tryz.prog.info? 3).map (fun i => (i.zero, i.size, i.bytes)) = some (some (.int .i64 0), 1, 8) := by kernel_rfl
  have hsz : (Tryz.prog.info? 3).map (·.size) = some 1 := by kernel_rfl
  have HSZ := Aside0.mk hsz
  have hmk := fun W => run_make_row' (P := Tryz.prog) 22 3 (.int .i64 0) 8 Tryz.underlying22 info3 rfl .i64 .i64 m (by omega) (by omega) W
  have hM := Aside0.mk (Tryz.bits_Mul 1 m (by omega) (by omega))
  have e1 : 1 * m / 18446744073709551616 = 0 := by omega
  have e2 : 1 * m % 18446744073709551616 = m := by omega
  rw [e1, e2] at hM
  have n0 : decide ((m : Int) < 0) = false := decide_eq_false (by omega)
  have n1 : decide ((9223372036854775807 : Int) < (m : Int)) = false := decide_eq_false (by omega)
  have H0 := Aside0.mk (show (w.alloc (Obj.cells (madeCells #[Value.int .i64 0] m) 3)).heap[w.heap.size]? = some (.cells (nums .i64 (repL m 0)).toArray 3 (0, 0)) by rw [made_ints, repL_zero]; exact heap_new _ _)
  have HB := Aside0.mk (below_alloc (Below.refl _ w) (Obj.cells (madeCells #[Value.int .i64 0] m) 3))
  have hc2 := Aside0.mk (pw_cell_below HB.out hc)
  clear hc hsz info3 e1 e2
  go_enter Tryz.func129, Tryz.ntmps129
  go_wp2_with (first | (go_at_call 132; refine (hM.out _).mono ?_; rintro e w1 ⟨rfl, hw⟩; have hw := hw.symm; subst hw) | (with_reducible refine wpList_copy_splice rfl (.tmp 31) (.tmp 32) 22 22 rfl 3 Tryz.underlying22 HSZ.out (some ⟨w.heap.size, 0, none⟩) (some ⟨gs, 0, none⟩) m m 1 1 rfl rfl w.heap.size 0 (nums .i64 (repL m 0)) 3 H0.out [.int .i64 (-1)] ?c1 ?c2 ?c3 ?c4 w.heap.size w HB.out (Nat.le_refl _) ?_))
  case c1 => exact (Nat.min_eq_left h1).symm
  case c2 =>
    have hc3 : ∀ (j : Nat) (v : Value), ([.int .i64 (-1)] : List Value)[j]? = some v → (w.alloc (Obj.cells (madeCells #[Value.int .i64 0] m) 3)).cell? ⟨gs, j, none⟩ = some v := fun j v hj => by
      cases j with
      | zero => cases hj; exact hc2.out
      | succ j => simp at hj
    first
      | exact hc3
      | exact fun _ => ⟨rfl, _, rfl, fun j v hj => by rw [add_plain]; exact hc3 j v hj⟩
      | exact ⟨_, rfl, fun j v hj => by rw [add_plain]; exact hc3 j v hj⟩
  case c3 => rw [nums_length, repL_length (by omega)]; simp; omega
  case c4 => intro v hv; simp at hv; subst hv; rfl
  intro w2 hh2 hb2
  have H2 := Aside0.mk (show w2.heap[w.heap.size]? = some (intsO (repL m 1)) by
    have := hh2.out
    unfold splice at this
    rw [show ([.int .i64 (-1)] : List Value) = nums .i64 (List.replicate 1 (-1)) from rfl, nums_length, List.length_replicate] at this
    rw [this]
    have e := repL_step (m := m) (k := 0) (c := 1) (by omega)
    simp only [List.append_assoc, Nat.zero_add] at e
    simp only [Nat.zero_add]
    rw [e]
    rfl)
  have HB2 := Aside0.mk hb2
  clear hh2 hb2 H0 HB hc2
  go_wp2
  obtain ⟨b, hb⟩ : ∃ b, w.heap.size = b := ⟨_, rfl⟩
  have HZ := Aside0.mk hb
  rw [hb] at H2 HB2 ⊢
  clear hb hw
  go_loopg [8] m (fun q v8 wr => ∃ (k : Nat), v8 = .int .i64 k ∧ 1 ≤ k ∧ k ≤ m ∧ m ≤ k + q ∧ Aside0 (wr.heap[b]? = some (intsO (repL m k))) ∧ Aside0 (Below b w wr))
  case atStart => exact ⟨1, rfl, by omega, by omega, by omega, H2, HB2⟩
  case round =>
    clear H2 HB2
    obtain ⟨k, rfl, k1, k2, k3, H2, HB2⟩ := hrel
    by_cases hlt : k < m
    · obtain ⟨q, rfl⟩ : ∃ q, gk = q + 1 := ⟨gk - 1, by omega⟩
      have hd : decide ((k : Int) < (m : Int)) = true := decide_eq_true (by omega)
      obtain ⟨c, hc⟩ : ∃ c, Nat.min k (m - k) = c := ⟨_, rfl⟩
      have hc1 : c ≤ k := by rw [← hc]; exact Nat.min_le_left _ _
      have hc2 : k + c ≤ m := by have : c ≤ m - k := by rw [← hc]; exact Nat.min_le_right _ _
                                 omega
      have hc3 : 1 ≤ c := by rw [← hc]; exact Nat.le_min.2 ⟨k1, by omega⟩
      have HS := Aside0.mk (show ∀ j v, (nums .i64 (List.replicate c (-1)))[j]? = some v → wr.drew.cell? ((⟨b, 0, none⟩ : Addr).add j) = some v by
        intro j v hj
        have hjc : j < c := by
          have := (List.getElem?_eq_some_iff.1 hj).1
          rwa [nums_length, List.length_replicate] at this
        rw [add_plain]
        have e := intAt (w := wr.drew) H2.out j (by rw [repL_length k2]; omega)
        rw [e]
        have e2 : (repL m k)[j]'(by rw [repL_length k2]; omega) = -1 := by
          unfold repL
          rw [List.getElem_append_left (by simp; omega)]
          simp
        rw [e2]
        simp [nums, List.getElem?_replicate, hjc] at hj
        rw [hj])
      have hn := Aside0.mk hc
      have nk1 : ¬ k = m := by omega
      have hlen : (nums .i64 (List.replicate c (-1))).length = c := by rw [nums_length, List.length_replicate]
      have nk2 : ¬ m = k := by omega
      have hw2 : IntKind.i64.wrap ((k : Int) + (c : Int)) = (k : Int) + (c : Int) := IntWalk.i64_in _ (by omega)
      clear hc
      go_wp2
      go_region_law (refine step_copy_exact rfl (.tmp 41) (.tmp 44) 22 22 rfl 3 Tryz.underlying22 HSZ.out (some ⟨b, k, none⟩) (some ⟨b, 0, none⟩) (m - k) (m - k) k m (by simp [Act.eval, Act.put, nk1, nk2]) (by simp [Act.eval, Act.put, nk1, nk2]) b k (nums .i64 (repL m k)) 3 H2.out (nums .i64 (List.replicate c (-1))) (by rw [nums_length, List.length_replicate]; exact hn.out.symm) (fun _ => ⟨rfl, _, rfl, HS.out⟩) (by rw [nums_length, nums_length, repL_length k2, List.length_replicate]; exact hc2) (by intro v hv; unfold nums at hv; obtain ⟨x, _, rfl⟩ := List.mem_map.1 hv; rfl) ?_; intro w3 hw3)
      have hd3 := hw3.out
      have h3 : w3.heap[b]? = some (intsO (repL m (k + c))) := by
        rw [hd3, setRow_heap _ _ _ _ _ _ (show wr.drew.heap[b]? = some _ from H2.out)]
        have e := repL_step hc2
        rw [nums_length (xs := List.replicate c (-1)), List.length_replicate, e]
        rfl
      have H3 := Aside0.mk h3
      have HB3 := Aside0.mk (show Below b w w3 by rw [hd3]; exact below_setRow (below_drew HB2.out) (Nat.le_refl _) _)
      clear hd3 h3 hw3 H2 HB2 hw2 hlen
      go_wp2
      go_roundg q
      case measure => omega
      case rel => exact ⟨k + c, by go_num, by omega, hc2, by omega, H3, HB3⟩
    · obtain rfl : k = m := by omega
      have hd : decide ((k : Int) < (k : Int)) = false := decide_eq_false (by omega)
      go_wp2
      go_ret
      rw [HZ.out]
      exact ⟨rfl, by rw [← repL_all]; exact H2.out, HB2.out⟩
end Go.Proofs.YtldohjlcckbfaaaGreatDoor.Hand
namespace Go.Proofs.YtldohjlcckbfaaaGreatDoor.Hand
open Go.RowKit Go.Proofs.YtldohjlcckbfaaaGreatDoorW.PrintWords Go.Proofs.YtldohjlcckbfaaaGreatDoorW.PrintLast Go.Proofs.YtldohjlcckbfaaaGreatDoorW.PrintMore
set_option linter.unusedVariables false
set_option linter.unusedSimpArgs false
open Go.Proofs.YtldohjlcckbfaaaGreatDoor.Pre
def boardO (n : Nat) (A : Option Addr) (c : Nat) : Obj := .cells #[.int .i64 n, .slice A (n * n) c] 138 (0, 0)
structure BoardAt (w : World) (b n : Nat) (S : List Int) : Prop where
  row : ∃ A c, w.heap[b]? = some (boardO n A c) ∧ Kd.C (Kd.int .u8) w A S.length S
  len : S.length = n * n
  lo : 1 ≤ n
  hi : n ≤ 11
theorem BoardAt.below {w w' : World} {b n : Nat} {S : List Int} (h : BoardAt w b n S) (hb : Below w.heap.size w w') : BoardAt w' b n S := by
  obtain ⟨A, c, h1, h2⟩ := h.row
  exact ⟨⟨A, c, blk_below h1 hb, Kd.C_below h2 hb⟩, h.len, h.lo, h.hi⟩
theorem BoardAt.cells {w : World} {b n : Nat} {S : List Int} (h : BoardAt w b n S) : ∃ A c, w.cell? ⟨b, 0, none⟩ = some (.int .i64 n) ∧ w.cell? ⟨b, 1, none⟩ = some (.slice A (n * n) c) ∧ Kd.C (Kd.int .u8) w A S.length S := by
  obtain ⟨A, c, h1, h2⟩ := h.row
  unfold boardO at h1
  exact ⟨A, c, by rw [blk_cell h1]; rfl, by rw [blk_cell h1]; rfl, h2⟩
def xo (s : ByteArray) : Bool := s.data.toList.all ([120, 111].contains ·)
theorem xo_trim (s : ByteArray) : (Lib.trimS s.data.toList [120, 111]).isEmpty = xo s := by
  have h := trimS_nil s.data.toList [120, 111]
  rw [Bool.eq_iff_iff, List.isEmpty_iff]
  exact h
set_option maxHeartbeats 4000000 in
set_option maxRecDepth 100000 in
theorem boarded_bad (n : Nat) (h1 : 1 ≤ n) (h2 : n ≤ 11) (s : ByteArray) (hs : s.size = n * n) (hx : xo s = false) (w : World) :
    Calls Tryz.prog 40 #[.int .i64 n, .string s, .string ⟨#[120, 111]⟩] w fun e w' => e = .returned (.tuple #[.pointer none, .int .i64 5]) ∧ Below w.heap.size w w' := by
  have e2 := xo_trim s
  rw [hx] at e2
  have hnn : n * n ≤ 11 * 11 := Nat.mul_le_mul h2 h2
  have c1 : decide ((n : Int) < 1) = false := decide_eq_false (by omega)
  have c2 : decide ((11 : Int) < (n : Int)) = false := decide_eq_false (by omega)
  have hw : wrap64 ((n : Int) * (n : Int)) = ((n * n : Nat) : Int) := by rw [Int.natCast_mul]; unfold wrap64; have : (n : Int) * n = ((n * n : Nat) : Int) := by rw [Int.natCast_mul]
                                                                         rw [this]; omega
  have c3 : ((s.size : Int) != ((n * n : Nat) : Int)) = false := by rw [hs]; simp
  clear hx
  go_enter Tryz.func40, Tryz.ntmps40
  go_wp2_with (go_at_call 56; refine (Any.strings_Trim_laid Tryz.lays160 (by kernel_rfl) s ⟨#[120, 111]⟩ _ (by omega) (by decide) (ascii_of_all (by decide))).mono ?_; rintro e w1 ⟨rfl, hb⟩)
  go_ret2
  exact ⟨rfl, hb⟩
theorem board_new (w : World) (n : Nat) (h1 : 1 ≤ n) (h2 : n ≤ 11) (s : ByteArray) (hs : s.size = n * n) (cap : Nat) (f : Nat × Nat) :
    BoardAt ((w.alloc (.cells (bytesRow s cap) 5 f)).alloc (.cells #[.int .i64 n, .slice (some ⟨w.heap.size, 0, none⟩) s.size cap] 138)).drew (w.heap.size + 1) n (bytesOf s) := by
  have hnn : n * n ≤ 11 * 11 := Nat.mul_le_mul h2 h2
  have hc := bytes_C w s cap f (by omega)
  have hc : Kd.C (Kd.int .u8) (w.alloc (.cells (bytesRow s cap) 5 f)) (some ⟨w.heap.size, 0, none⟩) (bytesOf s).length (bytesOf s) := hc
  refine ⟨⟨some ⟨w.heap.size, 0, none⟩, cap, ?_, Kd.C_below hc (below_drew (below_alloc (Below.refl _ _) _))⟩, by rw [bytesOf_length]; exact hs, h1, h2⟩
  have := heap_new (w.alloc (.cells (bytesRow s cap) 5 f)) (.cells #[.int .i64 n, .slice (some ⟨w.heap.size, 0, none⟩) s.size cap] 138)
  rw [size_alloc, hs] at this
  rw [hs]
  exact this
set_option maxHeartbeats 4000000 in
set_option maxRecDepth 100000 in
theorem boarded_good (n : Nat) (h1 : 1 ≤ n) (h2 : n ≤ 11) (s : ByteArray) (hs : s.size = n * n) (hx : xo s = true) (w : World) :
    Calls Tryz.prog 40 #[.int .i64 n, .string s, .string ⟨#[120, 111]⟩] w fun e w' => ∃ b, e = .returned (.tuple #[.pointer (some ⟨b, 0, none⟩), .int .i64 0]) ∧ BoardAt w' b n (bytesOf s) ∧ Below w.heap.size w w' := by
  have e2 := xo_trim s
  rw [hx] at e2
  have HS := Aside0.mk hs
  have hsz : s.size ≤ 121 := by rw [hs]; exact Nat.mul_le_mul h2 h2
  have hnn : n * n ≤ 11 * 11 := Nat.mul_le_mul h2 h2
  have c1 : decide ((n : Int) < 1) = false := decide_eq_false (by omega)
  have c2 : decide ((11 : Int) < (n : Int)) = false := decide_eq_false (by omega)
  have hw : wrap64 ((n : Int) * (n : Int)) = ((n * n : Nat) : Int) := by rw [Int.natCast_mul]; unfold wrap64; have : (n : Int) * n = ((n * n : Nat) : Int) := by rw [Int.natCast_mul]
                                                                         rw [this]; omega
  have c3 : ((s.size : Int) != (n : Int) * (n : Int)) = false := by rw [hs]; simp
  have hcv := fun w => run_bytes_of_string (P := Tryz.prog) w 9 98 5 s Tryz.underlying9 Tryz.underlying98 Tryz.underlying5
  clear hx hs
  go_enter Tryz.func40, Tryz.ntmps40
  go_wp2_with (go_at_call 56; refine (Any.strings_Trim_laid Tryz.lays160 (by kernel_rfl) s ⟨#[120, 111]⟩ _ (by omega) (by decide) (ascii_of_all (by decide))).mono ?_; rintro e w1 ⟨rfl, hb⟩; have HB := Aside0.mk hb; clear hb)
  go_ret2
  exact ⟨_, rfl, board_new w1 n h1 h2 s HS.out _ _, below_drew (HB.out.trans ((below_alloc (below_alloc (Below.refl _ _) _) _).mono HB.out.size))⟩
def endF (n : Nat) (i : Nat) (pl : Int) : Nat := if pl = 111 then i % n else i / n
set_option maxHeartbeats 4000000 in
set_option maxRecDepth 100000 in
theorem ends_calls (b n : Nat) (S : List Int) (i : Nat) (hi : i < n * n) (pl : Int) (w : World) (h : BoardAt w b n S) :
    Calls Tryz.prog 77 #[.pointer (some ⟨b, 0, none⟩), .int .i64 i, .int .u8 pl] w fun e w' => e = .returned (.tuple #[.bool (decide (endF n i pl = 0)), .bool (decide (endF n i pl = n - 1))]) ∧ ∃ k, w' = w.drewN k := by
  obtain ⟨A, c, q1, q2, _⟩ := h.cells
  have n1 := h.lo
  have n2 := h.hi
  have hnn : n * n ≤ 11 * 11 := Nat.mul_le_mul n2 n2
  have n0 : ((n : Int) == 0) = false := by simp; omega
  have d1 : (i : Int).tdiv (n : Int) = ((i / n : Nat) : Int) := by rw [Int.tdiv_eq_ediv_of_nonneg (by omega)]; exact (Int.natCast_ediv i n).symm
  have d2 : (i : Int).tmod (n : Int) = ((i % n : Nat) : Int) := by rw [Int.tmod_eq_emod_of_nonneg (by omega)]; exact (Int.natCast_emod i n).symm
  have l1 : i / n < n := Nat.div_lt_of_lt_mul hi
  have l2 : i % n < n := Nat.mod_lt _ (by omega)
  have hw : IntKind.i64.wrap ((n : Int) - 1) = (n : Int) - 1 := IntWalk.i64_in _ (by omega)
  by_cases hp : pl = 111
  · have cp : (pl == 111) = true := by simp [hp]
    have HE := Aside0.mk (show endF n i pl = i % n by unfold endF; rw [if_pos hp])
    obtain ⟨x, hx⟩ : ∃ x, i % n = x := ⟨_, rfl⟩
    rw [hx] at d2 l2 HE
    rw [HE.out]
    have t1 : ((x : Int) == 0) = decide (x = 0) := by rw [Bool.eq_iff_iff]; simp
    have t2 : ((x : Int) == (n : Int) - 1) = decide (x = n - 1) := by rw [Bool.eq_iff_iff]; simp; omega
    clear hx d1 l1 hp
    go_enter Tryz.func77, Tryz.ntmps77
    go_wp2
    go_quiet (fail)
    go_wp2
    go_ret2
    exact ⟨rfl, _, rfl⟩
  · have cp : (pl == 111) = false := by simp [hp]
    have HE := Aside0.mk (show endF n i pl = i / n by unfold endF; rw [if_neg hp])
    obtain ⟨x, hx⟩ : ∃ x, i / n = x := ⟨_, rfl⟩
    rw [hx] at d1 l1 HE
    rw [HE.out]
    have t1 : ((x : Int) == 0) = decide (x = 0) := by rw [Bool.eq_iff_iff]; simp
    have t2 : ((x : Int) == (n : Int) - 1) = decide (x = n - 1) := by rw [Bool.eq_iff_iff]; simp; omega
    have d3 : wrap64 ((i : Int) / (n : Int)) = (x : Int) := by
      have : (i : Int) / (n : Int) = (x : Int) := by rw [← Int.natCast_ediv, hx]
      rw [this]; unfold wrap64; omega
    clear hx d2 l2 hp
    go_enter Tryz.func77, Tryz.ntmps77
    go_wp2
    go_quiet (fail)
    go_wp2
    go_ret2
    exact ⟨rfl, _, rfl⟩
theorem cost_calls (b : Nat) (c pl : Int) (w : World) (h : w.cell? ⟨b, 0, none⟩ = some (.int .u8 pl)) :
    Calls Tryz.prog 76 #[.int .u8 c, .pointer (some ⟨b, 0, none⟩)] w fun e w' => e = .returned (.int .i64 (if c = pl then 1 else -1)) ∧ w' = w := by
  by_cases hp : c = pl
  · rw [if_pos hp]
    have cp : (c == pl) = true := by simp [hp]
    go_enter Tryz.func76, Tryz.ntmps76
    go_wp2
    go_ret
    exact ⟨rfl, rfl⟩
  · rw [if_neg hp]
    have cp : (c == pl) = false := by simp [hp]
    go_enter Tryz.func76, Tryz.ntmps76
    go_wp2
    go_ret
    exact ⟨rfl, rfl⟩
end Go.Proofs.YtldohjlcckbfaaaGreatDoor.Hand
namespace Go.Proofs.YtldohjlcckbfaaaGreatDoor.Hand
open Go.RowKit Go.Proofs.YtldohjlcckbfaaaGreatDoorW.PrintWords Go.Proofs.YtldohjlcckbfaaaGreatDoorW.PrintLast Go.Proofs.YtldohjlcckbfaaaGreatDoorW.PrintMore
set_option linter.unusedVariables false
set_option linter.unusedSimpArgs false
open Go.Proofs.YtldohjlcckbfaaaGreatDoor.Pre
def stepsV : Array Value := #[.int .i64 0, .int .i64 (-1), .int .i64 0, .int .i64 1, .int .i64 (-1), .int .i64 0, .int .i64 (-1), .int .i64 1, .int .i64 1, .int .i64 (-1), .int .i64 1, .int .i64 0]
def dR (k : Nat) : Int := [0, 0, -1, -1, 1, 1].getD k 0
def dC (k : Nat) : Int := [-1, 1, 0, 1, -1, 0].getD k 0
structure StepsAt (w : World) : Prop where
  row : ∃ t fr, w.heap[1]? = some (.cells stepsV t fr)
theorem StepsAt.below {w w' : World} (h : StepsAt w) (hb : Below w.heap.size w w') : StepsAt w' := by
  obtain ⟨t, fr, h⟩ := h.row
  exact ⟨t, fr, blk_below h hb⟩
theorem steps_0 (w : World) : (Instr.index 183 (.agg stepsV) (.int .i64 0)).run Tryz.prog w = .ok (.agg #[.int .i64 0, .int .i64 (-1)]) w := by kernel_rfl
theorem steps_1 (w : World) : (Instr.index 183 (.agg stepsV) (.int .i64 1)).run Tryz.prog w = .ok (.agg #[.int .i64 0, .int .i64 1]) w := by kernel_rfl
theorem steps_2 (w : World) : (Instr.index 183 (.agg stepsV) (.int .i64 2)).run Tryz.prog w = .ok (.agg #[.int .i64 (-1), .int .i64 0]) w := by kernel_rfl
theorem steps_3 (w : World) : (Instr.index 183 (.agg stepsV) (.int .i64 3)).run Tryz.prog w = .ok (.agg #[.int .i64 (-1), .int .i64 1]) w := by kernel_rfl
theorem steps_4 (w : World) : (Instr.index 183 (.agg stepsV) (.int .i64 4)).run Tryz.prog w = .ok (.agg #[.int .i64 1, .int .i64 (-1)]) w := by kernel_rfl
theorem steps_5 (w : World) : (Instr.index 183 (.agg stepsV) (.int .i64 5)).run Tryz.prog w = .ok (.agg #[.int .i64 1, .int .i64 0]) w := by kernel_rfl
theorem steps_index (k : Nat) (hk : k < 6) (w : World) : (Instr.index 183 (.agg stepsV) (.int .i64 k)).run Tryz.prog w = .ok (.agg #[.int .i64 (dR k), .int .i64 (dC k)]) w := by
  have : k = 0 ∨ k = 1 ∨ k = 2 ∨ k = 3 ∨ k = 4 ∨ k = 5 := by omega
  rcases this with rfl | rfl | rfl | rfl | rfl | rfl
  · exact steps_0 w
  · exact steps_1 w
  · exact steps_2 w
  · exact steps_3 w
  · exact steps_4 w
  · exact steps_5 w
def okN (n : Nat) (r c : Int) : Bool := decide (0 ≤ r) && decide (r < n) && decide (0 ≤ c) && decide (c < n)
def rawN (n i : Nat) : Nat → List Int
  | 0 => []
  | k + 1 => if okN n (((i / n : Nat) : Int) + dR k) (((i % n : Nat) : Int) + dC k) = true then rawN n i k ++ [(((i / n : Nat) : Int) + dR k) * n + (((i % n : Nat) : Int) + dC k)] else rawN n i k
theorem rawN_len (n i : Nat) : ∀ k, (rawN n i k).length ≤ k
  | 0 => by simp [rawN]
  | k + 1 => by
    have := rawN_len n i k
    rw [rawN]
    split
    · simp; omega
    · omega
theorem rawN_mem (n i : Nat) : ∀ k, ∀ x ∈ rawN n i k, 0 ≤ x ∧ x < ((n * n : Nat) : Int)
  | 0, x, h => by simp [rawN] at h
  | k + 1, x, h => by
    rw [rawN] at h
    split at h
    · rename_i c
      rcases List.mem_append.1 h with h | h
      · exact rawN_mem n i k x h
      · obtain rfl := List.mem_singleton.1 h
        unfold okN at c
        simp only [Bool.and_eq_true, decide_eq_true_eq] at c
        obtain ⟨⟨⟨c1, c2⟩, c3⟩, c4⟩ := c
        generalize ((i / n : Nat) : Int) + dR k = r at *
        generalize ((i % n : Nat) : Int) + dC k = q at *
        obtain ⟨r, rfl⟩ : ∃ m : Nat, r = m := ⟨r.toNat, by omega⟩
        obtain ⟨q, rfl⟩ : ∃ m : Nat, q = m := ⟨q.toNat, by omega⟩
        have hr : r + 1 ≤ n := by omega
        have hm : (r + 1) * n ≤ n * n := Nat.mul_le_mul_right n hr
        rw [Nat.succ_mul] at hm
        have e : (r : Int) * (n : Int) + (q : Int) = ((r * n + q : Nat) : Int) := by rw [Int.natCast_add, Int.natCast_mul]
        rw [e]
        omega
    · exact rawN_mem n i k x h
def nbsI (n i : Nat) : List Int := (rawN n i 6).mergeSort fun x y => decide (x ≤ y)
theorem nbsI_mem {n i : Nat} {x : Int} (h : x ∈ nbsI n i) : 0 ≤ x ∧ x < ((n * n : Nat) : Int) := by
  unfold nbsI at h
  rw [List.mem_mergeSort] at h
  exact rawN_mem n i 6 x h
theorem nbsI_len (n i : Nat) : (nbsI n i).length ≤ 6 := by
  unfold nbsI
  rw [List.length_mergeSort]
  exact rawN_len n i 6
theorem dR_b (k : Nat) (hk : k < 6) : -1 ≤ dR k ∧ dR k ≤ 1 := by
  match k, hk with
  | 0, _ => decide
  | 1, _ => decide
  | 2, _ => decide
  | 3, _ => decide
  | 4, _ => decide
  | 5, _ => decide
theorem dC_b (k : Nat) (hk : k < 6) : -1 ≤ dC k ∧ dC k ≤ 1 := by
  match k, hk with
  | 0, _ => decide
  | 1, _ => decide
  | 2, _ => decide
  | 3, _ => decide
  | 4, _ => decide
  | 5, _ => decide
open Go.Sort in
theorem grow_heap (w : World) (os : Array Obj) (k : Nat) (hk : k < w.heap.size) : (grow w os).heap[k]? = w.heap[k]? := by
  simp [grow, Array.getElem?_append_left hk]
open Go.Sort in
theorem below_grow {B : Nat} {w0 w : World} (os : Array Obj) (h : Below B w0 w) (hB : B ≤ w0.heap.size) : Below B w0 (grow w os) :=
  ⟨h.os, h.tape, h.output, by have := h.size; simp [grow]; omega, fun k hk => (grow_heap w os k (by have := h.size; omega)).trans (h.block k hk)⟩
open Go.Sort in
theorem own_grow {w : World} {base n e : Nat} {v : Value} {xs : List Value} (h : w.ownsRow base e 1 v n xs) (os : Array Obj) : (grow w os).ownsRow base e 1 v n xs :=
  own_move h (fun k hk => by
    obtain ⟨cells, hh⟩ := own_typed h k hk
    exact grow_heap w os k (Array.getElem?_eq_some_iff.1 hh).1)
theorem sort_own (base : Nat) (W0 w : World) (v : Value) (L : List Int) (hl : L.length ≤ 1000) (h : w.ownsRow base 3 1 v L.length (nums .i64 L)) (hB : Below base W0 w) (hbase' : base ≤ W0.heap.size) :
    Calls Tryz.prog 130 #[v] w fun e w' => e = .returned (.tuple #[]) ∧ w'.ownsRow base 3 1 v (L.mergeSort fun x y => decide (x ≤ y)).length (nums .i64 (L.mergeSort fun x y => decide (x ≤ y))) ∧ Below base W0 w' := by
  by_cases hv : v = .slice none 0 0
  · subst hv
    have h0 : L.length = 0 := by
      rcases h.2 with ⟨_, h0⟩ | ⟨g, cap, cur, e, _⟩
      · exact h0
      · cases e
    obtain rfl : L = [] := List.eq_nil_of_length_eq_zero h0
    refine (Tryz.slices_Sort_int_none none 0 w).mono ?_
    rintro e w1 ⟨rfl, rfl⟩
    exact ⟨rfl, by simpa using h, hB⟩
  · obtain ⟨g, cap, rfl, hg, hlt, hn, hm, _, hH⟩ := Lib.holds_of_ownsRow (enc := Value.int .i64) (zs := L) h hv
    refine (Tryz.slices_Sort_int g 0 cap L w hH hlt (by omega)).mono ?_
    rintro e w1 ⟨rfl, q, os, rfl⟩
    have hlen : (L.mergeSort fun x y => decide (x ≤ y)).length = L.length := List.length_mergeSort _
    have hr := Lib.ownsRow_putRow (enc := Value.int .i64) (q := q) (ys := L.mergeSort fun x y => decide (x ≤ y)) (k := L.length) h hlen (Nat.le_refl _)
    have hb1 := Lib.below_putRow (enc := Value.int .i64) (q := q) (d := (L.mergeSort fun x y => decide (x ≤ y)).toArray) hB hg
    rw [List.take_of_length_le (by omega)] at hr
    refine ⟨rfl, ?_, below_grow os hb1 (Nat.le_trans hbase' (Nat.le_refl _))⟩
    rw [hlen]
    exact own_grow hr os
set_option maxHeartbeats 4000000 in
set_option maxRecDepth 100000 in
theorem neighbours_calls (b n : Nat) (S : List Int) (i : Nat) (hi : i < n * n) (w : World) (h : BoardAt w b n S) (hs : StepsAt w) :
    Calls Tryz.prog 78 #[.pointer (some ⟨b, 0, none⟩), .int .i64 i] w fun e w' => ∃ v, e = .returned v ∧ w'.ownsRow w.heap.size 3 1 v (nbsI n i).length (nums .i64 (nbsI n i)) ∧ Below w.heap.size w w' := by
  have n1 := h.lo
  have n2 := h.hi
  have hnn : n * n ≤ 11 * 11 := Nat.mul_le_mul n2 n2
  have HBd := Aside0.mk h
  have n0 : ((n : Int) == 0) = false := by simp; omega
  have d1 : wrap64 ((i : Int) / (n : Int)) = ((i / n : Nat) : Int) := by
    have l : i / n ≤ i := Nat.div_le_self _ _
    have : (i : Int) / (n : Int) = ((i / n : Nat) : Int) := (Int.natCast_ediv i n).symm
    rw [this]
    clear this
    generalize i / n = m at *
    unfold wrap64; omega
  have d2 : (i : Int).tmod (n : Int) = ((i % n : Nat) : Int) := by rw [Int.tmod_eq_emod_of_nonneg (by omega)]; exact (Int.natCast_emod i n).symm
  have l1 : i / n < n := Nat.div_lt_of_lt_mul hi
  have l2 : i % n < n := Nat.mod_lt _ (by omega)
  obtain ⟨t1, fr1, hst⟩ := hs.row
  have HST := Aside0.mk hst
  have info3 : (Tryz.prog.info? 3).map (fun i => (i.zero, i.size, i.bytes)) = some (some (.int .i64 0), 1, 8) := by kernel_rfl
  obtain ⟨i0, hi0, hz0, hz1, hz2⟩ := info_parts info3
  clear h hs hst info3
  go_enter Tryz.func78, Tryz.ntmps78
  go_wp2_with (with_reducible refine wpList_load_row rfl 183 (.global 1) rfl 1 rfl t1 stepsV fr1 _ HST.out Tryz.underlying183 rfl (by kernel_rfl) ?_)
  go_loopg [5, 11] 6 (fun q v5 v11 wr => ∃ (k : Nat), v11 = .int .i64 k ∧ k + q = 6 ∧ Aside0 (wr.ownsRow w.heap.size 3 1 v5 (rawN n i k).length (nums .i64 (rawN n i k))) ∧ Aside0 (Below w.heap.size w wr))
  case atStart => exact ⟨0, rfl, rfl, ⟨own_nil _ _ _ _⟩, ⟨Below.refl _ _⟩⟩
  case round =>
    obtain ⟨k, rfl, hkq, HO, HB⟩ := hrel
    by_cases hlt : k < 6
    · obtain ⟨q, rfl⟩ : ∃ q, gk = q + 1 := ⟨gk - 1, by omega⟩
      have hd : decide ((k : Int) < 6) = true := decide_eq_true (by omega)
      have hix := steps_index k hlt
      obtain ⟨A, c, q1, q2, _⟩ := (HBd.out.below HB.out).cells
      have hbl := World.block_lt_of_cell? wr _ q1
      obtain ⟨hr1, hr2⟩ := dR_b k hlt
      obtain ⟨hc1, hc2⟩ := dC_b k hlt
      have HRw := Aside0.mk (show rawN n i (k + 1) = if okN n (((i / n : Nat) : Int) + dR k) (((i % n : Nat) : Int) + dC k) = true then rawN n i k ++ [(((i / n : Nat) : Int) + dR k) * n + (((i % n : Nat) : Int) + dC k)] else rawN n i k from rfl)
      have HLn := Aside0.mk (rawN_len n i k)
      obtain ⟨r0, hr0⟩ : ∃ x, i / n = x := ⟨_, rfl⟩
      obtain ⟨c0, hc0⟩ : ∃ x, i % n = x := ⟨_, rfl⟩
      rw [hr0] at d1 l1 HRw
      rw [hc0] at d2 l2 HRw
      obtain ⟨x, hx⟩ : ∃ x, dR k = x := ⟨_, rfl⟩
      obtain ⟨y, hy⟩ : ∃ y, dC k = y := ⟨_, rfl⟩
      rw [hx] at hr1 hr2 HRw hix
      rw [hy] at hc1 hc2 HRw hix
      clear hr0 hc0 hx hy
      have hwa : IntKind.i64.wrap ((r0 : Int) + x) = (r0 : Int) + x := IntWalk.i64_in _ (by clear HRw d1 d2; omega)
      have hwb : IntKind.i64.wrap ((c0 : Int) + y) = (c0 : Int) + y := IntWalk.i64_in _ (by clear HRw d1 d2; omega)
      have HBn := Aside0.mk (show Below w.heap.size w (wr.alloc (Obj.cells #[Value.int .i64 x, Value.int .i64 y] 182)) from HB.out.alloc HB.out.size _)
      have HOn := Aside0.mk (HO.out.alloc (Obj.cells #[Value.int .i64 x, Value.int .i64 y] 182))
      clear HB HO
      go_wp2
      go_quiet (fail)
      clear d1 d2 hwa hwb hix
      obtain ⟨w1, hw1⟩ : ∃ W, (wr.alloc (Obj.cells #[Value.int .i64 x, Value.int .i64 y] 182)).drewN nq = W := ⟨_, rfl⟩
      have HB1 := Aside0.mk (show Below w.heap.size w w1 by rw [← hw1]; exact pw_below_drewN HBn.out _)
      have HO1 := Aside0.mk (show w1.ownsRow w.heap.size 3 1 _ (rawN n i k).length (nums .i64 (rawN n i k)) by rw [← hw1]; exact pw_own_below HOn.out (pw_below_drewN (Below.refl _ _) _))
      rw [hw1]
      clear hw1 q1 q2 HBn HOn
      obtain ⟨A1, c1, q1, q2, _⟩ := (HBd.out.below HB1.out).cells
      have hno : ∀ P : Prop, okN n ((r0 : Int) + x) ((c0 : Int) + y) = false → rawN n i (k + 1) = rawN n i k := fun _ h => by rw [HRw.out, if_neg (by rw [h]; simp)]
      by_cases g1 : 0 ≤ (r0 : Int) + x
      · by_cases g2 : (r0 : Int) + x < n
        · by_cases g3 : 0 ≤ (c0 : Int) + y
          · by_cases g4 : (c0 : Int) + y < n
            · have e1 : decide (0 ≤ (r0 : Int) + x) = true := decide_eq_true g1
              have e2 : decide ((r0 : Int) + x < n) = true := decide_eq_true g2
              have e3 : decide (0 ≤ (c0 : Int) + y) = true := decide_eq_true g3
              have e4 : decide ((c0 : Int) + y < n) = true := decide_eq_true g4
              have HN := Aside0.mk (show rawN n i (k + 1) = rawN n i k ++ [((r0 : Int) + x) * n + ((c0 : Int) + y)] by rw [HRw.out, if_pos (by unfold okN; rw [e1, e2, e3, e4]; rfl)])
              have pp : 0 ≤ ((r0 : Int) + x) * n ∧ ((r0 : Int) + x) * n ≤ 11 * 11 := by
                clear hno HRw
                obtain ⟨m, hm⟩ : ∃ m : Nat, (r0 : Int) + x = m := ⟨((r0 : Int) + x).toNat, by omega⟩
                rw [hm, ← Int.natCast_mul]
                have : m * n ≤ 11 * 11 := Nat.mul_le_mul (by omega) n2
                omega
              obtain ⟨pp1, pp2⟩ := pp
              clear hno HRw
              obtain ⟨pr, hpr⟩ : ∃ z, ((r0 : Int) + x) * (n : Int) + ((c0 : Int) + y) = z := ⟨_, rfl⟩
              rw [hpr] at HN
              have HPR := Aside0.mk hpr
              clear hpr
              go_wp2_with (at_builtin; refine wpList_append_own _ rfl _ _ 22 rfl w.heap.size 3 i0 (.int .i64 0) 1 8 Tryz.underlying22 hi0 hz0 hz1 hz2 rfl (by decide) _ _ _ rfl (HO1.out.alloc _) ⟨w1.heap.size, 0, none⟩ 1 1 [.int .i64 (((r0 : Int) + x) * (n : Int) + ((c0 : Int) + y))] rfl rfl ?c1 ?c2 ?c3 ?c4 ?c5 ?_)
              case c1 => exact cell_one_new _ _ _
              case c2 => intro u hu; simp at hu; subst hu; rfl
              case c3 => have := HLn.out; unfold maxLen; omega
              case c4 => have := HLn.out; omega
              case c5 => have := HB1.out.size; simp; omega
              intro v' w4 hown4 hgrow4 _
              have HO4 : Aside0 (w4.ownsRow w.heap.size 3 1 v' (rawN n i (k + 1)).length (nums .i64 (rawN n i (k + 1)))) := ⟨by rw [HN.out, nums_append, List.length_append, ← HPR.out]; exact hown4⟩
              have HB4 : Aside0 (Below w.heap.size w w4) := ⟨pw_below_grown (HB1.out.alloc HB1.out.size _) _ (by have := HB1.out.size; simp; omega) hgrow4 (fun g hg => own_base HO1.out g hg)⟩
              clear hown4 hgrow4
              go_wp2
              go_roundg q
              case measure => omega
              case rel => exact ⟨k + 1, by go_num, by omega, HO4, HB4⟩
            · have e1 : decide (0 ≤ (r0 : Int) + x) = true := decide_eq_true g1
              have e2 : decide ((r0 : Int) + x < n) = true := decide_eq_true g2
              have e3 : decide (0 ≤ (c0 : Int) + y) = true := decide_eq_true g3
              have e4 : decide ((c0 : Int) + y < n) = false := decide_eq_false g4
              have HN := Aside0.mk (hno True (by unfold okN; rw [e1, e2, e3, e4]; rfl))
              clear hno HRw
              go_wp2
              go_roundg q
              case measure => omega
              case rel => exact ⟨k + 1, by go_num, by omega, by rw [HN.out]; exact HO1, HB1⟩
          · have e1 : decide (0 ≤ (r0 : Int) + x) = true := decide_eq_true g1
            have e2 : decide ((r0 : Int) + x < n) = true := decide_eq_true g2
            have e3 : decide (0 ≤ (c0 : Int) + y) = false := decide_eq_false g3
            have HN := Aside0.mk (hno True (by unfold okN; rw [e1, e2, e3]; rfl))
            clear hno HRw
            go_wp2
            go_roundg q
            case measure => omega
            case rel => exact ⟨k + 1, by go_num, by omega, by rw [HN.out]; exact HO1, HB1⟩
        · have e1 : decide (0 ≤ (r0 : Int) + x) = true := decide_eq_true g1
          have e2 : decide ((r0 : Int) + x < n) = false := decide_eq_false g2
          have HN := Aside0.mk (hno True (by unfold okN; rw [e1, e2]; rfl))
          clear hno HRw
          go_wp2
          go_roundg q
          case measure => omega
          case rel => exact ⟨k + 1, by go_num, by omega, by rw [HN.out]; exact HO1, HB1⟩
      · have e1 : decide (0 ≤ (r0 : Int) + x) = false := decide_eq_false g1
        have HN := Aside0.mk (hno True (by unfold okN; rw [e1]; rfl))
        clear hno HRw
        go_wp2
        go_roundg q
        case measure => omega
        case rel => exact ⟨k + 1, by go_num, by omega, by rw [HN.out]; exact HO1, HB1⟩
    · obtain rfl : gk = 0 := by omega
      obtain rfl : k = 6 := by omega
      have hd : decide (((6 : Nat) : Int) < 6) = false := by decide
      go_wp2_with (go_at_call 130; refine (sort_own w.heap.size w _ _ (rawN n i 6) (by have := rawN_len n i 6; omega) HO.out HB.out (Nat.le_refl _)).mono ?_; rintro e w1 ⟨rfl, ho1, hb1⟩; have HO1 := Aside0.mk ho1; have HB1 := Aside0.mk hb1; clear ho1 hb1)
      go_ret
      exact ⟨_, rfl, HO1.out, HB1.out⟩
end Go.Proofs.YtldohjlcckbfaaaGreatDoor.Hand
