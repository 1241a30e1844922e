/- A part of the proof that pomadetop.TopTold returns true for every input: HandUc, HandUd, HandUe, HandUf. No condition beyond those that each theorem states. -/
import Derived.Laws.Tables
import Derived.Deep.MidRow
import Derived.Test.YtldohjlcckbfaaaGreatDoorK32
namespace Go.Proofs.YtldohjlcckbfaaaGreatDoor.Hand
open Go.RowKit Go.Proofs.YtldohjlcckbfaaaGreatDoorW.PrintWords Go.Proofs.YtldohjlcckbfaaaGreatDoorW.PrintLast Go.Proofs.YtldohjlcckbfaaaGreatDoorW.PrintMore
set_option linter.unusedVariables false
set_option linter.unusedSimpArgs false
open Go.Proofs.YtldohjlcckbfaaaGreatDoor.Pre
open TopWords
set_option maxHeartbeats 4000000 in
set_option maxRecDepth 100000 in
theorem change_on (vb p F : Nat) (ks : ByteArray) (least most more step : Int) (a0 a1 a2 : Value) (line r : ByteArray) (S S' : Sh) (hl : S'.book.length ≤ 9) (hfi : (S'.add line).First) (w : World) (hv : w.heap[vb]? = some (verbO ks least most more step true F)) (hs : ShopAt w p S)
    (eg : ∀ args w, (callFunc F args).run Tryz.prog w = .ok (.enter F args) w)
    (hF : ∀ W q, Below w.heap.size w W → w.heap.size ≤ q → q < W.heap.size → ShopTX (· < q) W q S → Calls Tryz.prog F #[.pointer (some ⟨q, 0, none⟩), .agg #[a0, a1, a2, .string line]] W fun e W' => e = .returned (.string r) ∧ ShopX (fun g => g < q ∨ W.heap.size ≤ g) W' q S' ∧ Turn q W W') :
    Calls Tryz.prog 283 #[.agg #[.pointer (some ⟨vb, 0, none⟩), a0, a1, a2, .string line], .pointer (some ⟨p, 0, none⟩)] w fun e w' => e = .returned (.tuple #[.string r, .int .i64 0]) ∧ ShopAt w' p (S'.add line) ∧ Turn p w w' := by
  have HFI := Aside0.mk hfi
  have HA := heap_new w (Obj.cells #[.pointer (some ⟨vb, 0, none⟩), a0, a1, a2, .string line] 133)
  have hb0 := below_alloc (Below.refl _ w) (Obj.cells #[.pointer (some ⟨vb, 0, none⟩), a0, a1, a2, .string line] 133)
  have HF := Aside0.mk hF
  have HV := Aside0.mk hv
  have HS := Aside0.mk hs
  clear hF hv hs hfi
  go_enter Tryz.func283, Tryz.ntmps283
  go_wp2_with (fail)
  obtain ⟨b, hb⟩ : ∃ b, w.heap.size = b := ⟨_, rfl⟩
  have HZ := Aside0.mk hb
  obtain ⟨w1, e1⟩ : ∃ w1, w.alloc (Obj.cells #[.pointer (some ⟨vb, 0, none⟩), a0, a1, a2, .string line] 133) = w1 := ⟨_, rfl⟩
  rw [e1] at HA hb0 ⊢
  rw [hb] at HA ⊢
  have HB1 := Aside0.mk hb0
  clear hb hb0 e1
  have x0 : w1.cell? ⟨b, 0, none⟩ = some (.pointer (some ⟨vb, 0, none⟩)) := by rw [blk_cell HA]; rfl
  have x1 : w1.cell? ⟨b, 1, none⟩ = some a0 := by rw [blk_cell HA]; rfl
  have x2 : w1.cell? ⟨b, 2, none⟩ = some a1 := by rw [blk_cell HA]; rfl
  have x3 : w1.cell? ⟨b, 3, none⟩ = some a2 := by rw [blk_cell HA]; rfl
  have x4 : w1.cell? ⟨b, 4, none⟩ = some (.string line) := by rw [blk_cell HA]; rfl
  have HCP := Aside0.mk (copy_tx p S w1 (HS.out.below HB1.out))
  have HA1 := Aside0.mk HA
  clear HA
  go_wp2_with (go_at_call 280; (with_reducible refine HCP.out.mono ?_); rintro e w2 ⟨q, rfl, hq, hsq, hql, hb2⟩; have HB12 := Aside0.mk hb2; have HSQ := Aside0.mk hsq; have HQ := Aside0.mk (And.intro hq hql); have y0 := pw_cell_below hb2 x0; have y1 := pw_cell_below hb2 x1; have y2 := pw_cell_below hb2 x2; have y3 := pw_cell_below hb2 x3; have y4 := pw_cell_below hb2 x4; clear hb2 hsq hq hql x0 x1 x2 x3 x4)
  have hvl := blk_lt HV.out
  obtain ⟨hq1, hq2⟩ := HQ.out
  obtain ⟨us, ua, uc, um, ub, P0, _⟩ := HS.out.at_
  have hpl := blk_lt P0
  have hz := HZ.out
  have hz1 := HB1.out.size
  have hz2 := HB12.out.size
  have HB2 := Aside0.mk (HB1.out.trans (HB12.out.mono HB1.out.size))
  have HV2 := Aside0.mk (blk_below HV.out HB2.out)
  have HP2 := Aside0.mk (blk_below P0 HB2.out)
  have hqp : p ≠ q := by omega
  have hqv : vb ≠ q := by omega
  have HD := Aside0.mk (done_ch vb q F ks least most more step a0 a1 a2 line r S S' hl w2 HV2.out hq2 hqv HSQ.out eg (fun W hW hsW => HF.out W q (HB2.out.trans (hW.mono HB2.out.size)) (by omega) (by have := hW.size; omega) hsW))
  have hrow : ∀ (b : Bool) (v1 v2 v3 v4 v5 : Value), (Tryz.prog.info? 64).map (·.size) = some (shopC b v1 v2 v3 v4 v5).size := fun b v1 v2 v3 v4 v5 => by
    rw [show (shopC b v1 v2 v3 v4 v5).size = 37 from by cases b <;> rfl]
    kernel_rfl
  have hu64 := Tryz.underlying64
  have hsame : ∀ (b b' : Bool) (v1 v2 v3 v4 v5 u1 u2 u3 u4 u5 : Value), (shopC b v1 v2 v3 v4 v5).size = (shopC b' u1 u2 u3 u4 u5).size := fun b b' v1 v2 v3 v4 v5 u1 u2 u3 u4 u5 => by cases b <;> cases b' <;> rfl
  have HU := Aside0.mk (And.intro hrow hsame)
  clear hrow hsame P0
  have hC1 := HU.out.1
  have hC2 := HU.out.2
  have h1c : ∀ (b : Bool) (v1 v2 v3 v4 v5 : Value), v1.oneCell' = true → v2.oneCell' = true → v3.oneCell' = true → v4.oneCell' = true → v5.oneCell' = true → (shopC b v1 v2 v3 v4 v5).all (·.oneCell') = true := by
    intro b v1 v2 v3 v4 v5 o1 o2 o3 o4 o5
    rw [Array.all_eq_true_iff_forall_mem]
    intro v hv
    have hv2 : v ∈ chairsL b ++ [.int .i64 (-1), .int .i64 0, v1, v2, v3, v4, v5] := by simpa [shopC] using hv
    rcases List.mem_append.1 hv2 with h | h
    · exact chairs_one b v h
    · simp only [List.mem_cons, List.not_mem_nil, or_false] at h
      rcases h with rfl | rfl | rfl | rfl | rfl | rfl | rfl
      · rfl
      · rfl
      · exact o1
      · exact o2
      · exact o3
      · exact o4
      · exact o5
  have HU2 := Aside0.mk h1c
  clear hC1 hC2 h1c hu64
  go_wp2_with (first | (go_at_call 284; (with_reducible refine HD.out.mono ?_); rintro e w3 ⟨rfl, hs3, ht3⟩; have HS3 := Aside0.mk hs3; have HT3 := Aside0.mk ht3; obtain ⟨vs, va, vc, vm, vbk, P3, l1, l2, l3, l4, l5⟩ := hs3.at_; have HP3 := Aside0.mk P3; have L1 := Aside0.mk l1; have L2 := Aside0.mk l2; have L3 := Aside0.mk l3; have L4 := Aside0.mk l4; have L5 := Aside0.mk l5; have HPO := Aside0.mk (ht3.blk HP2.out hqp); clear hs3 ht3 P3 l1 l2 l3 l4 l5) | (with_reducible refine wpList_load_row rfl 64 (.tmp 24) rfl q (by simp [Act.eval]) 64 (shopC (S'.add line).b vs va vc vm vbk) (0, 0) _ HP3.out Tryz.underlying64 rfl (HU.out.1 _ _ _ _ _ _) ?_) | (with_reducible refine wpList_store_row rfl 64 (.tmp 26) (.tmp 25) rfl p (shopC (S'.add line).b vs va vc vm vbk) (by simp [Act.eval, Act.put]) (by simp [Act.eval, Act.put]) 64 (shopC S.b us ua uc um ub) HPO.out (HU.out.1 _ _ _ _ _ _) (HU.out.2 _ _ _ _ _ _ _ _ _ _ _ _) (HU2.out _ _ _ _ _ _ L1.out.oneV L2.out.oneV L3.out.oneV L4.out.oneV L5.out.oneV) ?_))
  have hkk : ∀ g, g ≠ p → g < w3.heap.size → (w3.setRow p (shopC (S'.add line).b vs va vc vm vbk)).heap[g]? = w3.heap[g]? := fun g hg _ => setRow_other _ _ _ _ hg
  have hfi := HFI.out
  refine bodyPost_ret (v := .tuple #[.string r, .int .i64 0]) (by simp [results, Tryz.results283, go_sem]) rfl ⟨rfl, ⟨HS3.out.ok, vs, va, vc, vm, vbk, setRow_heap _ _ _ _ _ _ HPO.out, L1.out.store HPO.out hfi.sents hkk, L2.out.store HPO.out hfi.arcs hkk, L3.out.store HPO.out hfi.coins hkk, L4.out.store HPO.out hfi.amts hkk, L5.out.store HPO.out hfi.book hkk⟩, ?_⟩
  have h1 := HB2.out
  have h2 := HT3.out
  refine ⟨h2.os.trans h1.os, h2.tape.trans h1.tape, h2.output.trans h1.output, ?_, ?_⟩
  · rw [size_setRow]
    exact Nat.le_trans h1.size h2.size
  · intro k hk hne
    rw [setRow_other _ _ _ _ hne]
    have := h1.size
    exact (h2.block k (by omega) (by omega)).trans (h1.block k hk)
end Go.Proofs.YtldohjlcckbfaaaGreatDoor.Hand
namespace Go.Proofs.YtldohjlcckbfaaaGreatDoor.Hand
open Go.RowKit Go.Proofs.YtldohjlcckbfaaaGreatDoorW.PrintWords Go.Proofs.YtldohjlcckbfaaaGreatDoorW.PrintLast Go.Proofs.YtldohjlcckbfaaaGreatDoorW.PrintMore
set_option linter.unusedVariables false
set_option linter.unusedSimpArgs false
open Go.Proofs.YtldohjlcckbfaaaGreatDoor.Pre
open TopWords
set_option maxHeartbeats 4000000 in
set_option maxRecDepth 100000 in
theorem exec_ch {i : Nat} {kw ks : ByteArray} {least most : Nat} {more : Int} {F : Nat} (hv : VerbIs i kw ks least most more true F) (ps : List ByteArray) (hps : ∀ x ∈ ps, wordB x)
    (hl : (lineOf (kw :: ps)).size ≤ 300) (hn1 : ks.size + least ≤ ps.length) (hn2 : ps.length ≤ ks.size + most) (hn3 : ps.length ≤ 100)
    (A : Nat → Nat → World → Prop) (w : World) (hG : Glob w) (p : Nat) (S : Sh) (S' : Sh) (hl9 : S'.book.length ≤ 9) (hfi : (S'.add (lineOf (kw :: ps))).First) (hs : ShopAt w p S) (r : ByteArray)
    (eg : ∀ args w, (callFunc F args).run Tryz.prog w = .ok (.enter F args) w)
    (hA0 : ∀ a W, W.heap[a]? = some (argsA a (.slice none 0 0) (.slice none 0 0) (.slice none 0 0) (lineOf (kw :: ps))) → Below w.heap.size w W → A a 0 W)
    (hT : ∀ a k W (hk : k < ps.length), a < W.heap.size → Below w.heap.size w W → A a k W → Calls Tryz.prog 69 #[.pointer (some ⟨a, 0, none⟩), .int .u8 (kindF ks more k), .string ps[k]] W fun e W' => e = .returned (.bool true) ∧ A a (k + 1) W' ∧ Below a W W')
    (hE : ∀ a W, A a ps.length W → ∃ v0 v1 v2, W.heap[a]? = some (argsA a v0 v1 v2 (lineOf (kw :: ps))))
    (hAB : ∀ a k W W', A a k W → Below W.heap.size W W' → A a k W')
    (hF : ∀ W q a v0 v1 v2, Below w.heap.size w W → w.heap.size ≤ q → q < W.heap.size → ShopTX (· < q) W q S → A a ps.length W → W.heap[a]? = some (argsA a v0 v1 v2 (lineOf (kw :: ps))) →
      Calls Tryz.prog F #[.pointer (some ⟨q, 0, none⟩), .agg #[v0, v1, v2, .string (lineOf (kw :: ps))]] W fun e W' => e = .returned (.string r) ∧ ShopX (fun g => g < q ∨ W.heap.size ≤ g) W' q S' ∧ Turn q W W') :
    Calls Tryz.prog 14 #[.pointer (some ⟨p, 0, none⟩), .string (lineOf (kw :: ps))] w fun e w' => e = .returned (.string r) ∧ ShopAt w' p (S'.add (lineOf (kw :: ps))) ∧ Turn p w w' := by
  have HP := Aside0.mk (parse_calls hv ps hps hl hn1 hn2 hn3 A w hG hA0 hT hE)
  have HOK := Aside0.mk (ok_calls p S w hs)
  have HS := Aside0.mk hs
  have HFI := Aside0.mk hfi
  have HF := Aside0.mk hF
  have HAB := Aside0.mk hAB
  obtain ⟨line, hline⟩ : ∃ s, lineOf (kw :: ps) = s := ⟨_, rfl⟩
  rw [hline] at HP HF HFI ⊢
  have hm : ∀ w v, (method 429 133 v "pomade/shop.on").run Tryz.prog w = .ok (283, v) w := fun _ _ => by kernel_rfl
  have hc : cmdT true = 133 := rfl
  clear hF hAB hs hfi hG hA0 hT hE hl hps hline
  go_enter Tryz.func14, Tryz.ntmps14
  go_wp2_with (first | (go_at_call 32; refine HOK.out.mono ?_; rintro e w0 ⟨rfl, rfl⟩) | (go_at_call 33; refine HP.out.mono ?_; rintro e w1 ⟨vb, a, v0, v1, v2, rfl, ha, hA, hvb, hb1⟩; rw [hc]; have HB1 := Aside0.mk hb1; have HL := Aside0.mk (change_on vb p F ks least most more 0 v0 v1 v2 line r S S' hl9 HFI.out w1 hvb (HS.out.below hb1) eg (fun W q hW hq1 hq2 hq => HF.out W q a v0 v1 v2 (hb1.trans (hW.mono hb1.size)) (Nat.le_trans hb1.size hq1) hq2 hq (HAB.out _ _ _ _ hA hW) (blk_below ha hW))); clear ha hA hvb hb1) | (go_at_call 283; refine HL.out.mono ?_; rintro e w2 ⟨rfl, hs2, ht2⟩; have HS2 := Aside0.mk hs2; have HT2 := Aside0.mk ((Turn.of_below (p := p) HB1.out).trans ht2); clear hs2 ht2))
  go_ret
  exact ⟨rfl, HS2.out, HT2.out⟩
end Go.Proofs.YtldohjlcckbfaaaGreatDoor.Hand
namespace Go.Proofs.YtldohjlcckbfaaaGreatDoor.Hand
open Go.RowKit Go.Proofs.YtldohjlcckbfaaaGreatDoorW.PrintWords Go.Proofs.YtldohjlcckbfaaaGreatDoorW.PrintLast Go.Proofs.YtldohjlcckbfaaaGreatDoorW.PrintMore
set_option linter.unusedVariables false
set_option linter.unusedSimpArgs false
open Go.Proofs.YtldohjlcckbfaaaGreatDoor.Pre
open TopWords
theorem chair_0 (w : World) : (Instr.index 60 (.agg (chairsL false).toArray) (.int .i64 0)).run Tryz.prog w = .ok (.agg #[.string ⟨#[]⟩, .int .i64 0, .int .i64 0]) w := by kernel_rfl
theorem chair_1 (w : World) : (Instr.index 60 (.agg (chairsL false).toArray) (.int .i64 1)).run Tryz.prog w = .ok (.agg #[.string ⟨#[]⟩, .int .i64 0, .int .i64 0]) w := by kernel_rfl
theorem chair_2 (w : World) : (Instr.index 60 (.agg (chairsL false).toArray) (.int .i64 2)).run Tryz.prog w = .ok (.agg #[.string ⟨#[]⟩, .int .i64 0, .int .i64 0]) w := by kernel_rfl
theorem chair_3 (w : World) : (Instr.index 60 (.agg (chairsL false).toArray) (.int .i64 3)).run Tryz.prog w = .ok (.agg #[.string ⟨#[]⟩, .int .i64 0, .int .i64 0]) w := by kernel_rfl
theorem chair_4 (w : World) : (Instr.index 60 (.agg (chairsL false).toArray) (.int .i64 4)).run Tryz.prog w = .ok (.agg #[.string ⟨#[]⟩, .int .i64 0, .int .i64 0]) w := by kernel_rfl
theorem chair_5 (w : World) : (Instr.index 60 (.agg (chairsL false).toArray) (.int .i64 5)).run Tryz.prog w = .ok (.agg #[.string ⟨#[]⟩, .int .i64 0, .int .i64 0]) w := by kernel_rfl
theorem chair_6 (w : World) : (Instr.index 60 (.agg (chairsL false).toArray) (.int .i64 6)).run Tryz.prog w = .ok (.agg #[.string ⟨#[]⟩, .int .i64 0, .int .i64 0]) w := by kernel_rfl
theorem chair_7 (w : World) : (Instr.index 60 (.agg (chairsL false).toArray) (.int .i64 7)).run Tryz.prog w = .ok (.agg #[.string ⟨#[]⟩, .int .i64 0, .int .i64 0]) w := by kernel_rfl
theorem chair_8 (w : World) : (Instr.index 60 (.agg (chairsL false).toArray) (.int .i64 8)).run Tryz.prog w = .ok (.agg #[.string ⟨#[]⟩, .int .i64 0, .int .i64 0]) w := by kernel_rfl
theorem chair_9 (w : World) : (Instr.index 60 (.agg (chairsL false).toArray) (.int .i64 9)).run Tryz.prog w = .ok (.agg #[.string ⟨#[]⟩, .int .i64 0, .int .i64 0]) w := by kernel_rfl
theorem chair_at (k : Nat) (hk : k < 10) (w : World) : (Instr.index 60 (.agg (chairsL false).toArray) (.int .i64 k)).run Tryz.prog w = .ok (.agg #[.string ⟨#[]⟩, .int .i64 0, .int .i64 0]) w := by
  have : k = 0 ∨ k = 1 ∨ k = 2 ∨ k = 3 ∨ k = 4 ∨ k = 5 ∨ k = 6 ∨ k = 7 ∨ k = 8 ∨ k = 9 := by omega
  rcases this with rfl | rfl | rfl | rfl | rfl | rfl | rfl | rfl | rfl | rfl
  · exact chair_0 w
  · exact chair_1 w
  · exact chair_2 w
  · exact chair_3 w
  · exact chair_4 w
  · exact chair_5 w
  · exact chair_6 w
  · exact chair_7 w
  · exact chair_8 w
  · exact chair_9 w
theorem shop_range {w : World} {p : Nat} {b : Bool} {vs va vc vm vb : Value} (h : w.heap[p]? = some (.cells (shopC b vs va vc vm vb) 64 (0, 0))) : w.rangeAt p 0 (chairsL b) := by
  intro j v hj
  rw [Nat.zero_add, blk_cell h]
  unfold shopC
  have hlt : j < (chairsL b).length := by rw [List.getElem?_eq_some_iff] at hj; exact hj.1
  rw [List.getElem?_toArray, List.getElem?_append_left hlt]
  exact hj
set_option maxHeartbeats 4000000 in
set_option maxRecDepth 100000 in
theorem seated0 (p : Nat) (vs va vc vm vb : Value) (w : World) (h : w.heap[p]? = some (.cells (shopC false vs va vc vm vb) 64 (0, 0))) :
    Calls Tryz.prog 163 #[.pointer (some ⟨p, 0, none⟩)] w fun e w' => e = .returned (.slice none 0 0) ∧ Below w.heap.size w w' := by
  have HR := Aside0.mk (shop_range h)
  have hl30 := chairs_len false
  have HI := Aside0.mk (show (Tryz.prog.info? 60).map (·.size) = some (chairsL false).length by rw [chairs_len]; kernel_rfl)
  clear h
  go_enter Tryz.func163, Tryz.ntmps163
  go_wp2_with (with_reducible refine wpList_load_mid rfl 60 (.tmp 8) rfl p 0 (by simp [Act.eval]) (chairsL false) _ HR.out Tryz.underlying60 rfl HI.out ?_)
  clear hl30
  obtain ⟨C, hC⟩ : ∃ C, (chairsL false).toArray = C := ⟨_, rfl⟩
  have HIx := Aside0.mk chair_at
  rw [hC] at HIx ⊢
  clear hC
  go_loopg [3, 10] 10 (fun q v3 v10 wr => ∃ k : Nat, v10 = .int .i64 k ∧ k + q = 10 ∧ v3 = .slice none 0 0 ∧ Aside0 (Below w.heap.size w wr))
  case atStart => exact ⟨0, rfl, rfl, rfl, ⟨Below.refl _ _⟩⟩
  case round =>
    obtain ⟨k, rfl, hkq, rfl, HB⟩ := hrel
    by_cases hlt : k < 10
    · obtain ⟨q, rfl⟩ : ∃ q, gk = q + 1 := ⟨gk - 1, by omega⟩
      have hd : decide ((k : Int) < 10) = true := decide_eq_true (by omega)
      have hix := HIx.out k hlt
      have HB1 := Aside0.mk (show Below w.heap.size w (wr.alloc (Obj.cells #[Value.string ⟨#[]⟩, Value.int .i64 0, Value.int .i64 0] 59)) from HB.out.alloc HB.out.size _)
      go_wp2
      go_roundg q
      case measure => omega
      case rel => exact ⟨k + 1, by go_num, by omega, rfl, HB1⟩
    · obtain rfl : k = 10 := by omega
      go_wp2
      go_ret
      exact ⟨rfl, HB.out⟩
set_option maxHeartbeats 4000000 in
set_option maxRecDepth 100000 in
theorem customer0 (p : Nat) (S : Sh) (hS : S.b = false) (x : ByteArray) (w : World) (h : ShopAt w p S) :
    Calls Tryz.prog 152 #[.pointer (some ⟨p, 0, none⟩), .string x] w fun e w' => e = .returned (.tuple #[.agg #[.string ⟨#[]⟩, .int .i64 0, .int .i64 0], .int .i64 6]) ∧ Below w.heap.size w w' := by
  have HS := Aside0.mk h
  have HSe : Aside0 (∀ (W : World), Below w.heap.size w W → Calls Tryz.prog 163 #[.pointer (some ⟨p, 0, none⟩)] W fun e w' => e = .returned (.slice none 0 0) ∧ Below W.heap.size W w') := ⟨fun W hb => by
    obtain ⟨vs, va, vc, vm, vb, h0, _⟩ := (h.below hb).at_
    rw [hS] at h0
    exact seated0 p vs va vc vm vb W h0⟩
  clear h
  go_enter Tryz.func152, Tryz.ntmps152
  go_wp2_with (first | (go_at_call 32; refine (ok_calls p S _ (HS.out.below (below_alloc (Below.refl _ _) _))).mono ?_; rintro e w1 ⟨rfl, hw⟩; rw [hw]; clear hw w1) | (go_at_call 163; refine (HSe.out _ (below_alloc (Below.refl _ _) _)).mono ?_; rintro e w2 ⟨rfl, hb2⟩; have HB2 := Aside0.mk ((below_alloc (Below.refl w.heap.size w) (Obj.cells #[Value.string ⟨#[]⟩, Value.int .i64 0, Value.int .i64 0] 59)).trans (hb2.mono (by simp only [size_alloc]; omega))); have HC2 := Aside0.mk (blk_below (heap_new w (Obj.cells #[Value.string ⟨#[]⟩, Value.int .i64 0, Value.int .i64 0] 59)) hb2); clear hb2))
  obtain ⟨b, hb⟩ : ∃ b, w.heap.size = b := ⟨_, rfl⟩
  have HZ := Aside0.mk hb
  rw [hb] at HC2 ⊢
  clear hb
  have x0 : w2.cell? ⟨b, 0, none⟩ = some (.string ⟨#[]⟩) := by rw [blk_cell HC2.out]; rfl
  have x1 : w2.cell? ⟨b, 1, none⟩ = some (.int .i64 0) := by rw [blk_cell HC2.out]; rfl
  have x2 : w2.cell? ⟨b, 2, none⟩ = some (.int .i64 0) := by rw [blk_cell HC2.out]; rfl
  have f0 := blk_frozen HC2.out 0
  have f1 := blk_frozen HC2.out 1
  have f2 := blk_frozen HC2.out 2
  go_loopg [15] 0 (fun q v15 wr => v15 = .int .i64 0 ∧ wr = w2)
  case atStart => exact ⟨rfl, rfl⟩
  case round =>
    obtain ⟨rfl, hw⟩ := hrel
    rw [hw]
    clear hw
    go_wp2
    have h1 : (w2.setCell ⟨b, 0, none⟩ (.string ⟨#[]⟩)).heap[b]? = some (.cells #[.string ⟨#[]⟩, .int .i64 0, .int .i64 0] 59 (0, 0)) := by rw [heap_setCell_same _ _ _ _ _ _ HC2.out]; rfl
    have h2 : ((w2.setCell ⟨b, 0, none⟩ (.string ⟨#[]⟩)).setCell ⟨b, 1, none⟩ (.int .i64 0)).heap[b]? = some (.cells #[.string ⟨#[]⟩, .int .i64 0, .int .i64 0] 59 (0, 0)) := by rw [heap_setCell_same _ _ _ _ _ _ h1]; rfl
    have h3 : (((w2.setCell ⟨b, 0, none⟩ (.string ⟨#[]⟩)).setCell ⟨b, 1, none⟩ (.int .i64 0)).setCell ⟨b, 2, none⟩ (.int .i64 0)).heap[b]? = some (.cells #[.string ⟨#[]⟩, .int .i64 0, .int .i64 0] 59 (0, 0)) := by rw [heap_setCell_same _ _ _ _ _ _ h2]; rfl
    have hB : Below w.heap.size w (((w2.setCell ⟨b, 0, none⟩ (.string ⟨#[]⟩)).setCell ⟨b, 1, none⟩ (.int .i64 0)).setCell ⟨b, 2, none⟩ (.int .i64 0)) := by
      have hz := HZ.out
      exact ((HB2.out.setCell (p := ⟨b, 0, none⟩) (by show w.heap.size ≤ b; omega) _).setCell (p := ⟨b, 1, none⟩) (by show w.heap.size ≤ b; omega) _).setCell (p := ⟨b, 2, none⟩) (by show w.heap.size ≤ b; omega) _
    obtain ⟨w3, hw3⟩ : ∃ w3, ((w2.setCell ⟨b, 0, none⟩ (.string ⟨#[]⟩)).setCell ⟨b, 1, none⟩ (.int .i64 0)).setCell ⟨b, 2, none⟩ (.int .i64 0) = w3 := ⟨_, rfl⟩
    rw [hw3] at h3 hB ⊢
    clear hw3 h1 h2 x0 x1 x2 f0 f1 f2
    have z0 : w3.cell? ⟨b, 0, none⟩ = some (.string ⟨#[]⟩) := by rw [blk_cell h3]; rfl
    have z1 : w3.cell? ⟨b, 1, none⟩ = some (.int .i64 0) := by rw [blk_cell h3]; rfl
    have z2 : w3.cell? ⟨b, 2, none⟩ = some (.int .i64 0) := by rw [blk_cell h3]; rfl
    exact bodyPost_ret (v := .tuple #[.agg #[.string ⟨#[]⟩, .int .i64 0, .int .i64 0], .int .i64 6]) (by simp [results, Tryz.results152, go_sem, z0, z1, z2]) rfl ⟨rfl, hB⟩
def sh1 : Sh := ⟨true, [], [], 0, [.int .i64 1], [], []⟩
set_option maxHeartbeats 4000000 in
set_option maxRecDepth 100000 in
theorem sit_calls (q g0 c0 g1 c1 : Nat) (v2 v3 : Value) (w0 w : World) (hG : Glob w0) (hB0 : Below w0.heap.size w0 w) (hq0 : w0.heap.size ≤ q) (hq : q < w.heap.size) (h0 : w.cell? ⟨g0, 0, none⟩ = some (.int .i64 3)) (h1 : w.cell? ⟨g1, 0, none⟩ = some (.string ⟨#[97, 110, 110]⟩)) (hs : ShopTX (· < q) w q sh0) :
    Calls Tryz.prog 107 #[.pointer (some ⟨q, 0, none⟩), .agg #[.slice (some ⟨g0, 0, none⟩) 1 c0, .slice (some ⟨g1, 0, none⟩) 1 c1, v2, v3]] w fun e w' => e = .returned (.string ⟨#[51]⟩) ∧ ShopX (fun g => g < q ∨ w.heap.size ≤ g) w' q sh1 ∧ Turn q w w' := by
  have HG := Aside0.mk hG
  have HS := Aside0.mk hs
  have HQ := Aside0.mk (And.intro hq hq0)
  have HB0 := Aside0.mk hB0
  have hA := heap_new w (Obj.cells #[.slice (some ⟨g0, 0, none⟩) 1 c0, .slice (some ⟨g1, 0, none⟩) 1 c1, v2, v3] 129)
  have hb0 := below_alloc (Below.refl _ w) (Obj.cells #[.slice (some ⟨g0, 0, none⟩) 1 c0, .slice (some ⟨g1, 0, none⟩) 1 c1, v2, v3] 129)
  have y0 := pw_cell_below hb0 h0
  have y1 := pw_cell_below hb0 h1
  clear hG hs h0 h1 hq hq0 hB0
  go_enter Tryz.func107, Tryz.ntmps107
  go_wp2
  obtain ⟨b, hb⟩ : ∃ b, w.heap.size = b := ⟨_, rfl⟩
  have HZ := Aside0.mk hb
  obtain ⟨w1, e1⟩ : ∃ w1, w.alloc (Obj.cells #[.slice (some ⟨g0, 0, none⟩) 1 c0, .slice (some ⟨g1, 0, none⟩) 1 c1, v2, v3] 129) = w1 := ⟨_, rfl⟩
  rw [e1] at hA hb0 y0 y1 ⊢
  rw [hb] at hA ⊢
  have HB1 := Aside0.mk hb0
  clear hb hb0 e1
  have x0 : w1.cell? ⟨b, 0, none⟩ = some (.slice (some ⟨g0, 0, none⟩) 1 c0) := by rw [blk_cell hA]; rfl
  have x1 : w1.cell? ⟨b, 1, none⟩ = some (.slice (some ⟨g1, 0, none⟩) 1 c1) := by rw [blk_cell hA]; rfl
  clear hA
  go_quiet (fail)
  have HB2 := Aside0.mk (pw_below_drewN HB1.out nq)
  obtain ⟨w2, hw2⟩ : ∃ W, w1.drewN nq = W := ⟨_, rfl⟩
  rw [hw2] at HB2 ⊢
  clear hw2 x0 x1 y0 y1
  have HCu := Aside0.mk (customer0 q sh0 rfl ⟨#[97, 110, 110]⟩ w2 (by
    obtain ⟨us, ua, uc, um, ub, P0, t1, t2, t3, t4, t5⟩ := (HS.out.below HB2.out).at_
    exact ⟨sh0_ok, us, ua, uc, um, ub, P0, t1.lies.loose, t2.lies.loose, t3.lies.loose, t4.lies.loose, t5.lies.loose⟩))
  go_wp2_with (first | (go_at_call 152; refine HCu.out.mono ?_; rintro e w3 ⟨rfl, hb3⟩; have HB3 := Aside0.mk (HB2.out.trans (hb3.mono HB2.out.size)); clear hb3) | (go_at_call 153; refine (ensure_ok _ _).mono ?_; rintro e w4 ⟨rfl, hw⟩; rw [hw]; clear hw w4))
  have hz := HZ.out
  obtain ⟨hq1, hq0⟩ := HQ.out
  have hs3 := HB3.out.size
  have HB5 := Aside0.mk (below_alloc HB3.out (Obj.cells #[Value.string ⟨#[]⟩, Value.int .i64 0, Value.int .i64 0] 59))
  obtain ⟨w5, hw5⟩ : ∃ W, w3.alloc (Obj.cells #[Value.string ⟨#[]⟩, Value.int .i64 0, Value.int .i64 0] 59) = W := ⟨_, rfl⟩
  rw [hw5] at HB5 ⊢
  clear hw5
  obtain ⟨us, ua, uc, um, ub, P5, t1, t2, t3, t4, t5⟩ := (HS.out.below HB5.out).at_
  have y9 : w5.cell? ⟨q, 9, none⟩ = some (.string ⟨#[]⟩) := by rw [blk_cell P5]; rfl
  have y10 : w5.cell? ⟨q, 10, none⟩ = some (.int .i64 0) := by rw [blk_cell P5]; rfl
  have y11 : w5.cell? ⟨q, 11, none⟩ = some (.int .i64 0) := by rw [blk_cell P5]; rfl
  have f9 := blk_frozen P5 9
  have f10 := blk_frozen P5 10
  have f11 := blk_frozen P5 11
  have HP5 := Aside0.mk P5
  have HT := Aside0.mk (And.intro t1 (And.intro t2 (And.intro t3 (And.intro t4 t5))))
  clear P5 t1 t2 t3 t4 t5
  have h1 : (w5.setCell ⟨q, 9, none⟩ (.string ⟨#[97, 110, 110]⟩)).heap[q]? = some (.cells ((shopC false us ua uc um ub).set! 9 (.string ⟨#[97, 110, 110]⟩)) 64 (0, 0)) := by rw [heap_setCell_same _ _ _ _ _ _ HP5.out]; rfl
  have h2 : ((w5.setCell ⟨q, 9, none⟩ (.string ⟨#[97, 110, 110]⟩)).setCell ⟨q, 10, none⟩ (.int .i64 3)).heap[q]? = some (.cells (((shopC false us ua uc um ub).set! 9 (.string ⟨#[97, 110, 110]⟩)).set! 10 (.int .i64 3)) 64 (0, 0)) := by rw [heap_setCell_same _ _ _ _ _ _ h1]; rfl
  have h3 : (((w5.setCell ⟨q, 9, none⟩ (.string ⟨#[97, 110, 110]⟩)).setCell ⟨q, 10, none⟩ (.int .i64 3)).setCell ⟨q, 11, none⟩ (.int .i64 3)).heap[q]? = some (.cells (shopC true us ua uc um ub) 64 (0, 0)) := by rw [heap_setCell_same _ _ _ _ _ _ h2]; rfl
  have hT6 : Turn q w (((w5.setCell ⟨q, 9, none⟩ (.string ⟨#[97, 110, 110]⟩)).setCell ⟨q, 10, none⟩ (.int .i64 3)).setCell ⟨q, 11, none⟩ (.int .i64 3)) := (((Turn.of_below (p := q) HB5.out).set ⟨q, 9, none⟩ (.inl rfl) _).set ⟨q, 10, none⟩ (.inl rfl) _).set ⟨q, 11, none⟩ (.inl rfl) _
  have hk6 : ∀ g, g ≠ q → (((w5.setCell ⟨q, 9, none⟩ (.string ⟨#[97, 110, 110]⟩)).setCell ⟨q, 10, none⟩ (.int .i64 3)).setCell ⟨q, 11, none⟩ (.int .i64 3)).heap[g]? = w5.heap[g]? := fun g hg => by
    rw [Below.heap_setCell _ _ _ _ hg, Below.heap_setCell _ _ _ _ hg, Below.heap_setCell _ _ _ _ hg]
  have H6 := Aside0.mk (And.intro h3 (And.intro hT6 hk6))
  clear h1 h2 h3 hT6 hk6
  have HI3 := Aside0.mk (show itoaB 3 = ⟨#[51]⟩ by decide +kernel)
  go_loopg [9] 0 (fun q v9 wr => v9 = .int .i64 3 ∧ wr = w5)
  case atStart => exact ⟨rfl, rfl⟩
  case round =>
    obtain ⟨rfl, hw⟩ := hrel
    rw [hw]
    clear hw
    go_wp2_with (fail)
    obtain ⟨w6, hw6⟩ : ∃ w6, ((w5.setCell ⟨q, 9, none⟩ (.string ⟨#[97, 110, 110]⟩)).setCell ⟨q, 10, none⟩ (.int .i64 3)).setCell ⟨q, 11, none⟩ (.int .i64 3) = w6 := ⟨_, rfl⟩
    rw [hw6] at H6
    try rw [hw6]
    obtain ⟨h3, hT6, hk6⟩ := H6.out
    have HB06 := Aside0.mk (show Below w0.heap.size w0 w6 from HB0.out.trans (hT6.below hq0 HB0.out.size))
    have HI := Aside0.mk (itoa_calls 3 (by decide) (by decide) w6 (HG.out.below HB06.out))
    rw [HI3.out] at HI
    have HSX := Aside0.mk (show ShopX (fun g => g < q ∨ w.heap.size ≤ g) w6 q sh1 from by
      obtain ⟨t1, t2, t3, t4, t5⟩ := HT.out
      have hkq : ∀ g, g < q → g < w5.heap.size → w6.heap[g]? = w5.heap[g]? := fun g hg _ => hk6 g (by omega)
      exact ⟨⟨by decide, by decide, by decide, by decide, by decide, by decide⟩, us, ua, uc, um, ub, h3, (t1.loose.kept hkq).imp (fun g hg => .inl hg), (t2.loose.kept hkq).imp (fun g hg => .inl hg), (t3.loose.kept hkq).imp (fun g hg => .inl hg), (t4.loose.kept hkq).imp (fun g hg => .inl hg), (t5.kept hkq).imp (fun g hg => .inl hg)⟩)
    have HT6 := Aside0.mk hT6
    clear h3 hT6 hk6
    go_wp2_with (go_at_call 71; refine HI.out.mono ?_; rintro e w7 ⟨rfl, hb7⟩; have HB7 := Aside0.mk hb7; clear hb7)
    go_ret
    exact ⟨rfl, HSX.out.below HB7.out, HT6.out.trans (Turn.of_below HB7.out)⟩
end Go.Proofs.YtldohjlcckbfaaaGreatDoor.Hand
namespace Go.Proofs.YtldohjlcckbfaaaGreatDoor.Hand
open Go.RowKit Go.Proofs.YtldohjlcckbfaaaGreatDoorW.PrintWords Go.Proofs.YtldohjlcckbfaaaGreatDoorW.PrintLast Go.Proofs.YtldohjlcckbfaaaGreatDoorW.PrintMore
set_option linter.unusedVariables false
set_option linter.unusedSimpArgs false
open Go.Proofs.YtldohjlcckbfaaaGreatDoor.Pre
open TopWords
def Sh.paid (S : Sh) (x : Int) : Sh := { S with amts := [.int .i64 x] }
theorem TX.nilOf {ok : Nat → Prop} {w : World} {size : Nat} {v : Value} {xs : List Value} (h : TX ok w size v xs 0) : v = .slice none 0 0 := by
  rcases h.lies.lies with ⟨h, _⟩ | ⟨_, _, h0, _⟩
  · exact h
  · omega
theorem kept_lt {w w' : World} {q : Nat} {ok : Nat → Prop} {size n : Nat} {v : Value} {xs : List Value} (h : TX (· < q) w size v xs n) (ht : Turn q w w') (hi : ∀ g, g < q → ok g) : LX ok w' size v xs n :=
  (h.loose.kept (fun g hg hlt => ht.block g hlt (by have : g < q := hg; omega))).imp hi
theorem kept_ltT {w w' : World} {q : Nat} {ok : Nat → Prop} {size n : Nat} {v : Value} {xs : List Value} (h : TX (· < q) w size v xs n) (ht : Turn q w w') (hi : ∀ g, g < q → ok g) : TX ok w' size v xs n :=
  (h.kept (fun g hg hlt => ht.block g hlt (by have : g < q := hg; omega))).imp hi
theorem LX.of_own {w : World} {base e size n B q : Nat} {v : Value} {xs : List Value} (hs : 0 < size) (h : w.ownsRow base e size v n xs) (h1 : ∀ u ∈ xs, u.oneCell' = true) (hB : B ≤ base) : LX (fun g => g < q ∨ B ≤ g) w size v xs n :=
  ⟨LAt.of_own hs h h1, fun g hg => .inr (Nat.le_trans hB (own_base h g hg))⟩
theorem shop_set35 (b : Bool) (vs va vc vm vb x : Value) : (shopC b vs va vc vm vb).set! 35 x = shopC b vs va vc x vb := by cases b <;> rfl
theorem shop_set33 (b : Bool) (vs va vc vm vb x : Value) : (shopC b vs va vc vm vb).set! 33 x = shopC b vs x vc vm vb := by cases b <;> rfl
theorem shop_set32 (b : Bool) (vs va vc vm vb x : Value) : (shopC b vs va vc vm vb).set! 32 x = shopC b x va vc vm vb := by cases b <;> rfl
set_option maxHeartbeats 4000000 in
set_option maxRecDepth 100000 in
theorem put_calls (q : Nat) (S : Sh) (hA : S.amts = []) (x : Int) (w : World) (hq : q < w.heap.size) (hs : ShopTX (· < q) w q S) :
    Calls Tryz.prog 157 #[.pointer (some ⟨q, 0, none⟩), .int .i64 x] w fun e w' => e = .returned (.tuple #[]) ∧ ShopX (fun g => g < q ∨ w.heap.size ≤ g) w' q (S.paid x) ∧ Turn q w w' := by
  have HOk := Aside0.mk hs.good
  obtain ⟨vs, va, vc, vm, vb, P0, t1, t2, t3, t4, t5⟩ := hs.at_
  rw [hA] at t4
  obtain rfl := TX.nilOf t4
  have HP := Aside0.mk P0
  have HT := Aside0.mk (And.intro t1 (And.intro t2 (And.intro t3 t5)))
  have c35 : w.cell? ⟨q, 35, none⟩ = some (.slice none 0 0) := by rw [blk_cell P0]; cases S.b <;> rfl
  have info3 : (Tryz.prog.info? 3).map (fun i => (i.zero, i.size, i.bytes)) = some (some (.int .i64 0), 1, 8) := by kernel_rfl
  obtain ⟨i0, hi0, hz0, hz1, hz2⟩ := info_parts info3
  clear hs P0 t1 t2 t3 t4 t5 info3
  go_enter Tryz.func157, Tryz.ntmps157
  go_wp2_with (first | (go_at_call 153; refine (ensure_ok _ _).mono ?_; rintro e w4 ⟨rfl, hw⟩; rw [hw]; clear hw w4) | (at_builtin; refine wpList_append_own _ rfl _ _ 22 rfl w.heap.size 3 i0 (.int .i64 0) 1 8 Tryz.underlying22 hi0 hz0 hz1 hz2 rfl (by decide) (.slice none 0 0) 0 [] rfl (own_nil _ _ _ _) ⟨w.heap.size, 0, none⟩ 1 1 [.int .i64 x] rfl rfl ?c1 ?c2 ?c3 ?c4 ?c5 ?_))
  case c1 => intro j u hj; rw [Addr.add_lit, Nat.zero_add, blk_cell (heap_new w _)]; simpa using hj
  case c2 => intro u hu; rw [List.mem_singleton] at hu; subst hu; rfl
  case c3 => decide
  case c4 => decide
  case c5 => simp only [size_alloc]; omega
  intro v' w2 hown hgrow hiff
  obtain ⟨g, cap, rfl, hg1, hg2⟩ := hown.form (by omega)
  have HB2 := Aside0.mk (show Below w.heap.size w w2 from (below_alloc (Below.refl _ w) (Obj.cells #[Value.int .i64 x] 3)).grown hgrow (by simp only [size_alloc]; omega) (fun k hk => by simp [Value.ownBlock] at hk))
  have P2 := Aside0.mk (blk_below HP.out HB2.out)
  have z35 : w2.cell? ⟨q, 35, none⟩ = some (.slice none 0 0) := pw_cell_below HB2.out c35
  have zf := blk_frozen P2.out 35
  have HO := Aside0.mk hown
  clear hgrow hiff hown c35
  go_wp2
  have hT : Turn q w (w2.setCell ⟨q, 35, none⟩ (.slice (some ⟨g, 0, none⟩) 1 cap)) := (Turn.of_below (p := q) HB2.out).set ⟨q, 35, none⟩ (.inl rfl) _
  have hP : (w2.setCell ⟨q, 35, none⟩ (.slice (some ⟨g, 0, none⟩) 1 cap)).heap[q]? = some (.cells (shopC S.b vs va vc (.slice (some ⟨g, 0, none⟩) 1 cap) vb) 64 (0, 0)) := by
    rw [heap_setCell_same _ _ _ _ _ _ P2.out]
    exact congrArg (fun c => some (Obj.cells c 64 (0, 0))) (shop_set35 S.b vs va vc (.slice none 0 0) vb _)
  have hL : LX (fun g => g < q ∨ w.heap.size ≤ g) (w2.setCell ⟨q, 35, none⟩ (.slice (some ⟨g, 0, none⟩) 1 cap)) 1 (.slice (some ⟨g, 0, none⟩) 1 cap) [.int .i64 x] 1 := by
    refine (LX.of_own (by decide) HO.out (fun u hu => by obtain rfl := List.mem_singleton.1 hu; rfl) (Nat.le_refl _)).kept (fun k hk _ => Below.heap_setCell _ _ _ _ ?_)
    show k ≠ q
    omega
  obtain ⟨t1, t2, t3, t5⟩ := HT.out
  have ho := HOk.out
  exact ⟨rfl, .tuple #[], by simp [results, Tryz.results157, go_sem], rfl, ⟨⟨ho.sents, ho.narcs, ho.coins, ho.coin, by show 1 ≤ 10; decide, ho.book⟩, vs, va, vc, _, vb, hP, kept_lt t1 hT (fun _ h => .inl h), kept_lt t2 hT (fun _ h => .inl h), kept_lt t3 hT (fun _ h => .inl h), hL, kept_ltT t5 hT (fun _ h => .inl h)⟩, hT⟩
end Go.Proofs.YtldohjlcckbfaaaGreatDoor.Hand
