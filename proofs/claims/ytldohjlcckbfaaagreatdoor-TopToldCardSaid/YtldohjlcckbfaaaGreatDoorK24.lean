/- A part of the proof that pomadetop.TopTold returns true for every input: HandTg, HandTh, HandTi. No condition beyond those that each theorem states. -/
import Derived.WideShapes
import Derived.Test.YtldohjlcckbfaaaGreatDoorK23
namespace Go.Proofs.YtldohjlcckbfaaaGreatDoor.Hand
open Go.RowKit Go.Proofs.YtldohjlcckbfaaaGreatDoorW.PrintWords Go.Proofs.YtldohjlcckbfaaaGreatDoorW.PrintLast Go.Proofs.YtldohjlcckbfaaaGreatDoorW.PrintMore
set_option linter.unusedVariables false
set_option linter.unusedSimpArgs false
open Go.Proofs.YtldohjlcckbfaaaGreatDoor.Pre
open TopWords
def kindF (ks : ByteArray) (more : Int) (i : Nat) : Int := if h : i < ks.size then ((ks[i]'h).toNat : Int) else more
set_option maxHeartbeats 2000000 in
set_option maxRecDepth 100000 in
theorem kind_calls (vb : Nat) (ks : ByteArray) (more : Int) (v1 v2 v4 v5 v6 : Value) (i : Nat) (hi : i ≤ 1000) (hk : ks.size ≤ 1000) (w : World) (h : w.heap[vb]? = some (.cells #[.string ks, v1, v2, .int .u8 more, v4, v5, v6] 127 (0, 0))) :
    Calls Tryz.prog 70 #[.pointer (some ⟨vb, 0, none⟩), .int .i64 i] w fun e w' => e = .returned (.int .u8 (kindF ks more i)) ∧ w' = w := by
  have c0 : w.cell? ⟨vb, 0, none⟩ = some (.string ks) := by rw [blk_cell h]; rfl
  have c3 : w.cell? ⟨vb, 3, none⟩ = some (.int .u8 more) := by rw [blk_cell h]; rfl
  by_cases hlt : i < ks.size
  · have hd : decide ((i : Int) < (ks.size : Int)) = true := decide_eq_true (by omega)
    go_enter Tryz.func70, Tryz.ntmps70
    go_wp2
    go_ret
    refine ⟨?_, rfl⟩
    unfold kindF
    rw [dif_pos hlt]
    simp
  · have hd : decide ((i : Int) < (ks.size : Int)) = false := decide_eq_false (by omega)
    go_enter Tryz.func70, Tryz.ntmps70
    go_wp2
    go_ret
    refine ⟨?_, rfl⟩
    unfold kindF
    rw [dif_neg hlt]
    rfl
theorem toList_ne (s : ByteArray) (hs : 0 < s.size) : s.toList.isEmpty = false := by
  have h : s.toList = s.data.toList := ByteArray.toList_eq s
  rw [h]
  cases hd : s.data.toList with
  | nil =>
    have : s.data.size = 0 := by rw [← Array.length_toList, hd]; rfl
    have h2 : s.size = s.data.size := rfl
    omega
  | cons a t => rfl
set_option maxHeartbeats 2000000 in
set_option maxRecDepth 100000 in
theorem blank_calls (s : ByteArray) (hs : 0 < s.size) (w : World) :
    Calls Tryz.prog 66 #[.string s] w fun e w' => e = .returned (.bool false) ∧ w' = w := by
  have hne := toList_ne s hs
  go_enter Tryz.func66, Tryz.ntmps66
  go_wp2
  go_ret
  exact ⟨by simp [hne], rfl⟩
set_option maxHeartbeats 2000000 in
set_option maxRecDepth 100000 in
theorem odd_calls (x : Nat) (hx : x ≤ 1114111) (w : World) :
    Calls Tryz.prog 63 #[.int .i32 x] w fun e w' => e = .returned (.bool (decide (x < 32) || decide (126 < x))) ∧ w' = w := by
  by_cases h1 : x < 32
  · have hd : decide ((x : Int) < 32) = true := decide_eq_true (by omega)
    go_enter Tryz.func63, Tryz.ntmps63
    go_wp2
    go_ret
    exact ⟨by simp [h1], rfl⟩
  · have hd : decide ((x : Int) < 32) = false := decide_eq_false (by omega)
    go_enter Tryz.func63, Tryz.ntmps63
    go_wp2
    go_ret
    refine ⟨?_, rfl⟩
    simp [h1]
    omega
def WordsAt (w : World) (b : Nat) (ws : List ByteArray) : Prop := ∀ (j : Nat) x, ws[j]? = some x → w.cell? ⟨b, j, none⟩ = some (.string x)
set_option maxHeartbeats 4000000 in
set_option maxRecDepth 100000 in
theorem index_none (b c : Nat) (ws : List ByteArray) (hl : ws.length ≤ 1000) (hne : ∀ x ∈ ws, 0 < x.size) (w : World) (h : WordsAt w b ws) :
    Calls Tryz.prog 104 #[.slice (some ⟨b, 0, none⟩) ws.length c, .func (.func 66) #[] #[]] w fun e w' => e = .returned (.int .i64 (-1)) ∧ w' = w := by
  have H := Aside0.mk h
  have HN := Aside0.mk hne
  clear h hne
  go_enter Tryz.func104, Tryz.ntmps104
  go_wp2
  go_loopg [8] ws.length (fun q v8 wr => ∃ (i : Nat), v8 = .int .i64 i ∧ i + q = ws.length ∧ wr = w)
  case atStart => exact ⟨0, rfl, by omega, rfl⟩
  case round =>
    obtain ⟨i, rfl, hiq, rfl⟩ := hrel
    by_cases hlt : i < ws.length
    · obtain ⟨q, rfl⟩ : ∃ q, gk = q + 1 := ⟨gk - 1, by omega⟩
      have hd : decide ((i : Int) < (ws.length : Int)) = true := decide_eq_true (by omega)
      have x1 := H.out i ws[i] (List.getElem?_eq_getElem hlt)
      have HC := Aside0.mk (fun W => blank_calls ws[i] (HN.out _ (List.getElem_mem hlt)) W)
      obtain ⟨x, hx⟩ : ∃ x, ws[i] = x := ⟨_, rfl⟩
      rw [hx] at x1 HC
      clear hx
      go_wp2_with (go_at_call 66; refine (HC.out _).mono ?_; rintro e w1 ⟨rfl, rfl⟩)
      go_roundg q
      case measure => omega
      case rel => exact ⟨i + 1, by go_num, by omega, rfl⟩
    · obtain rfl : gk = 0 := by omega
      obtain rfl : i = ws.length := by omega
      have hd : decide ((ws.length : Int) < (ws.length : Int)) = false := decide_eq_false (by omega)
      go_wp2
      go_ret
      exact ⟨rfl, rfl⟩
end Go.Proofs.YtldohjlcckbfaaaGreatDoor.Hand
namespace Go.Proofs.YtldohjlcckbfaaaGreatDoor.Hand
open Go.RowKit Go.Proofs.YtldohjlcckbfaaaGreatDoorW.PrintWords Go.Proofs.YtldohjlcckbfaaaGreatDoorW.PrintLast Go.Proofs.YtldohjlcckbfaaaGreatDoorW.PrintMore
set_option linter.unusedVariables false
set_option linter.unusedSimpArgs false
open Go.Proofs.YtldohjlcckbfaaaGreatDoor.Pre
open TopWords
set_option maxHeartbeats 4000000 in
set_option maxRecDepth 100000 in
theorem delete_none (b c : Nat) (ws : List ByteArray) (hl : ws.length ≤ 1000) (hne : ∀ x ∈ ws, 0 < x.size) (w : World) (h : WordsAt w b ws) :
    Calls Tryz.prog 64 #[.slice (some ⟨b, 0, none⟩) ws.length c, .func (.func 66) #[] #[]] w fun e w' => e = .returned (.slice (some ⟨b, 0, none⟩) ws.length c) ∧ w' = w := by
  have HI := Aside0.mk (index_none b c ws hl hne w h)
  clear h hne
  go_enter Tryz.func64, Tryz.ntmps64
  go_wp2_with (go_at_call 104; refine HI.out.mono ?_; rintro e w1 ⟨rfl, rfl⟩)
  go_ret
  exact ⟨rfl, rfl⟩
def wordB (x : ByteArray) : Prop := 0 < x.size ∧ ∀ b ∈ x.data.toList, 33 ≤ b.toNat ∧ b.toNat ≤ 126
def lineOf (ws : List ByteArray) : ByteArray := ⟨(Lib.join (ws.map (·.data.toList)) [32]).toArray⟩
theorem lineOf_list (ws : List ByteArray) : (lineOf ws).data.toList = Lib.join (ws.map (·.data.toList)) [32] := by simp [lineOf]
theorem words_ok {ws : List ByteArray} (h : ∀ x ∈ ws, wordB x) : wordsOk (ws.map (·.data.toList)) := by
  intro l hl hm
  obtain ⟨x, hx, rfl⟩ := List.mem_map.1 hl
  have := (h x hx).2 32 hm
  revert this; decide
theorem join_mem : ∀ (ws : List (List UInt8)) (b : UInt8), b ∈ Lib.join ws [32] → b = 32 ∨ ∃ x ∈ ws, b ∈ x
  | [], b, h => by simp [Lib.join, List.intercalate] at h
  | [x], b, h => by
    have : Lib.join [x] [32] = x := by simp [Lib.join, List.intercalate, List.intersperse]
    rw [this] at h
    exact .inr ⟨x, by simp, h⟩
  | x :: y :: ws, b, h => by
    rw [join_cons] at h
    rcases List.mem_append.1 h with h | h
    · rcases List.mem_append.1 h with h | h
      · exact .inr ⟨x, by simp, h⟩
      · exact .inl (by simpa using h)
    · rcases join_mem (y :: ws) b h with h | ⟨z, hz, hb⟩
      · exact .inl h
      · exact .inr ⟨z, List.mem_cons_of_mem _ hz, hb⟩
theorem line_mem {ws : List ByteArray} (h : ∀ x ∈ ws, wordB x) : ∀ b ∈ (lineOf ws).data.toList, 32 ≤ b.toNat ∧ b.toNat ≤ 126 := by
  intro b hb
  rw [lineOf_list] at hb
  rcases join_mem _ b hb with rfl | ⟨l, hl, hm⟩
  · decide
  · obtain ⟨x, hx, rfl⟩ := List.mem_map.1 hl
    have := (h x hx).2 b hm
    omega
theorem idx_none (s : ByteArray) (h : ∀ b ∈ s.data.toList, 32 ≤ b.toNat ∧ b.toNat ≤ 126) : ∀ (f pos : Nat), Lib.idxFuncFrom (fun x => decide (x < 32) || decide (126 < x)) true s f pos = -1
  | 0, _ => rfl
  | f + 1, pos => by
    unfold Lib.idxFuncFrom
    by_cases hp : pos < s.size
    · rw [if_pos hp]
      have hb := h (s[pos]'hp) (by
        have : s[pos]'hp = s.data.toList[pos]'(by simpa using hp) := rfl
        rw [this]; exact List.getElem_mem _)
      rw [decode_ascii s pos hp (by omega)]
      rw [if_neg (by simp; omega)]
      exact idx_none s h f _
    · rw [if_neg hp]
set_option maxHeartbeats 2000000 in
theorem odd_none (s : ByteArray) (h : ∀ b ∈ s.data.toList, 32 ≤ b.toNat ∧ b.toNat ≤ 126) (w : World) :
    Calls Tryz.prog 62 #[.string s, .func (.func 63) #[] #[]] w fun e w' => e = .returned (.bool false) ∧ Below w.heap.size w w' := by
  refine (Tryz.strings_ContainsFunc_runes 63 #[] (enters_of Tryz.func63 (by kernel_rfl) rfl) (fun x => decide (x < 32) || decide (126 < x)) s w ?_).mono ?_
  · intro W x hx hb
    refine (odd_calls x hx W).mono ?_
    rintro e w' ⟨rfl, rfl⟩
    exact ⟨rfl, 0, rfl⟩
  · rintro e w' ⟨rfl, hb⟩
    refine ⟨?_, hb⟩
    unfold Lib.idxFunc
    rw [idx_none s h]
    rfl
theorem trim_some (s : ByteArray) (b : UInt8) (hb : b ∈ s.data.toList) (h : b ≠ 32) : (ByteArray.mk (Lib.trimB s.data.toList 32).toArray).toList.isEmpty = false := by
  rw [ByteArray.toList_eq]
  simp only [List.toList_toArray]
  have h1 : b ∈ Lib.trimRightB s.data.toList 32 := by
    unfold Lib.trimRightB
    rw [List.mem_reverse]
    have : b ∈ s.data.toList.reverse := List.mem_reverse.2 hb
    generalize s.data.toList.reverse = l at this
    induction l with
    | nil => cases this
    | cons a t ih =>
      rw [List.dropWhile_cons]
      split
      · rename_i ha
        rcases List.mem_cons.1 this with rfl | ht
        · exact absurd (beq_iff_eq.1 ha) h
        · exact ih ht
      · exact this
  have h2 : b ∈ Lib.trimB s.data.toList 32 := by
    unfold Lib.trimB Lib.trimLeftB
    generalize Lib.trimRightB s.data.toList 32 = l at h1
    induction l with
    | nil => cases h1
    | cons a t ih =>
      rw [List.dropWhile_cons]
      split
      · rename_i ha
        rcases List.mem_cons.1 h1 with rfl | ht
        · exact absurd (beq_iff_eq.1 ha) h
        · exact ih ht
      · exact h1
  cases hl : Lib.trimB s.data.toList 32 with
  | nil => rw [hl] at h2; cases h2
  | cons a t => rfl
theorem map_data_inj {xs ys : List ByteArray} (h : xs.map (·.data.toList) = ys.map (·.data.toList)) : xs = ys := by
  induction xs generalizing ys with
  | nil => cases ys with | nil => rfl | cons y t => simp at h
  | cons x t ih =>
    cases ys with
    | nil => simp at h
    | cons y t' =>
      simp only [List.map_cons, List.cons.injEq] at h
      rw [ih h.2]
      have : x = y := WideShapes.bytes_inj h.1
      rw [this]
theorem split_line (x : ByteArray) (ws : List ByteArray) (h : ∀ y ∈ x :: ws, wordB y) : Lib.countB (lineOf (x :: ws)) ⟨#[32]⟩ = ws.length ∧ Lib.splitB ⟨#[32]⟩ 0 ws.length (lineOf (x :: ws)) = x :: ws := by
  have hw := words_ok h
  rw [List.map_cons] at hw
  constructor
  · have := count_join _ _ hw
    unfold Lib.countB
    rw [lineOf_list]
    simpa using this
  · apply map_data_inj
    rw [Lib.splitB_data, lineOf_list]
    have := split_join _ _ hw
    simpa using this
end Go.Proofs.YtldohjlcckbfaaaGreatDoor.Hand
namespace Go.Proofs.YtldohjlcckbfaaaGreatDoor.Hand
open Go.RowKit Go.Proofs.YtldohjlcckbfaaaGreatDoorW.PrintWords Go.Proofs.YtldohjlcckbfaaaGreatDoorW.PrintLast Go.Proofs.YtldohjlcckbfaaaGreatDoorW.PrintMore
set_option linter.unusedVariables false
set_option linter.unusedSimpArgs false
open Go.Proofs.YtldohjlcckbfaaaGreatDoor.Pre
open TopWords
structure VerbIs (i : Nat) (kw ks : ByteArray) (least most : Nat) (more : Int) (ch : Bool) (F : Nat) : Prop where
  row : verbT[i]? = some (kw, #[.string ks, .int .i64 least, .int .i64 most, .int .u8 more, .int .i64 0, .bool ch, .func (.func F) #[] #[]])
  find : ∀ m, Instr.findNow .string (.string kw) (esOf m 20).toList 0 = some (some (i, .pointer (some ⟨m + 1 + i, 0, none⟩)))
  word : wordB kw
  noif : (kw.toList == [105, 102]) = false
  size : ks.size ≤ 2
  least : least ≤ 20
  most : most ≤ 20
  lt : i < 20
theorem run_look {W : World} {m i : Nat} {kw ks : ByteArray} {least most : Nat} {more : Int} {ch : Bool} {F : Nat} (hv : VerbIs i kw ks least most more ch F) (h : VerbsAt W m 20) :
    (Instr.lookup 123 (.map (some m)) (.string kw) true).run Tryz.prog W = .ok (.tuple #[.pointer (some ⟨m + 1 + i, 0, none⟩), .bool true]) W := by
  have hk : ∀ em, (Instr.checkKey em 10000 9 (.string kw)).run Tryz.prog W = .ok () W := by
    intro em
    unfold Instr.checkKey
    rw [Sem.run_bind, run_underlying Tryz.underlying9]
    rfl
  simp [Instr.lookup, run_underlying Tryz.underlying123, run_underlying Tryz.underlying9, MapKept.run_getObj_map h.map, hk, Instr.findKey, hv.find, Result.andThen]
def cmdT (ch : Bool) : Nat := if ch then 133 else 134
def argsA (a : Nat) (v0 v1 v2 : Value) (line : ByteArray) : Obj := .cells #[v0, v1, v2, .string line] 129 (0, 0)
theorem words_new (w : World) (ws : List ByteArray) : WordsAt (w.alloc (.cells (ws.map Value.string).toArray 9)) w.heap.size ws := by
  intro j x hj
  rw [blk_cell (heap_new w _)]
  simpa using hj
set_option maxHeartbeats 4000000 in
set_option maxRecDepth 100000 in
theorem parse_calls {i : Nat} {kw ks : ByteArray} {least most : Nat} {more : Int} {ch : Bool} {F : Nat} (hv : VerbIs i kw ks least most more ch F) (ps : List ByteArray) (hps : ∀ x ∈ ps, wordB x)
    (hl : (lineOf (kw :: ps)).size ≤ 300) (hn1 : ks.size + least ≤ ps.length) (hn2 : ps.length ≤ ks.size + most) (hn3 : ps.length ≤ 100)
    (A : Nat → Nat → World → Prop) (w : World) (hG : Glob w)
    (hA0 : ∀ a W, W.heap[a]? = some (argsA a (.slice none 0 0) (.slice none 0 0) (.slice none 0 0) (lineOf (kw :: ps))) → Below w.heap.size w W → A a 0 W)
    (hT : ∀ a k W (hk : k < ps.length), a < W.heap.size → Below w.heap.size w W → A a k W → Calls Tryz.prog 69 #[.pointer (some ⟨a, 0, none⟩), .int .u8 (kindF ks more k), .string ps[k]] W fun e W' => e = .returned (.bool true) ∧ A a (k + 1) W' ∧ Below a W W')
    (hE : ∀ a W, A a ps.length W → ∃ v0 v1 v2, W.heap[a]? = some (argsA a v0 v1 v2 (lineOf (kw :: ps)))) :
    Calls Tryz.prog 33 #[.string (lineOf (kw :: ps))] w fun e w' => ∃ vb a v0 v1 v2, e = .returned (.iface (cmdT ch) (.agg #[.pointer (some ⟨vb, 0, none⟩), v0, v1, v2, .string (lineOf (kw :: ps))])) ∧
      w'.heap[a]? = some (argsA a v0 v1 v2 (lineOf (kw :: ps))) ∧ A a ps.length w' ∧ w'.heap[vb]? = some (verbO ks least most more 0 ch F) ∧ Below w.heap.size w w' := by
  have hws : ∀ x ∈ kw :: ps, wordB x := fun x hx => by
    rcases List.mem_cons.1 hx with rfl | h
    · exact hv.word
    · exact hps x h
  obtain ⟨hc, hs⟩ := split_line kw ps hws
  have hm := line_mem hws
  obtain ⟨b0, hb0⟩ : ∃ b0, b0 ∈ kw.data.toList := by
    have := hv.word.1
    cases h : kw.data.toList with
    | nil => have h2 : kw.data.size = 0 := by rw [← Array.length_toList, h]; rfl
             have h3 : kw.size = kw.data.size := rfl
             omega
    | cons a t => exact ⟨a, by simp⟩
  have hb1 : b0 ∈ (lineOf (kw :: ps)).data.toList := by
    rw [lineOf_list, List.map_cons]
    cases ps with
    | nil => simpa [Lib.join, List.intercalate, List.intersperse] using hb0
    | cons p t => rw [List.map_cons, join_cons]; simp [hb0]
  have hTr := trim_some _ b0 hb1 (by rintro rfl; have := hv.word.2 32 hb0; revert this; decide)
  have hlist := lineOf_list (kw :: ps)
  obtain ⟨line, hline⟩ : ∃ s, lineOf (kw :: ps) = s := ⟨_, rfl⟩
  rw [hline] at hc hs hm hb1 hTr hl hA0 hE hlist ⊢
  have HTrim := Aside0.mk (Any.strings_Trim_one Tryz.lays160 line 32 (by decide) w (by omega))
  obtain ⟨tl, htl⟩ : ∃ t, ByteArray.mk (Lib.trimB line.data.toList 32).toArray = t := ⟨_, rfl⟩
  rw [htl] at hTr HTrim
  clear htl
  have HOdd := Aside0.mk (fun W => odd_none line hm W)
  have HSplit := Aside0.mk (fun W (hg : ∃ m, World.cell? W ⟨4, 0, none⟩ = some (.int .i64 m)) => Tryz.strings_Split line ⟨#[32]⟩ hg.choose W (by omega) hg.choose_spec (by decide))
  have HV := Aside0.mk hv
  have HG := Aside0.mk hG
  have HTT := Aside0.mk hTr
  have HA0 := Aside0.mk hA0
  have HT := Aside0.mk hT
  have HE := Aside0.mk hE
  have HC := Aside0.mk hc
  have HSP := Aside0.mk hs
  have HLI := Aside0.mk hlist
  have HWS := Aside0.mk hws
  have hd1 : decide ((300 : Int) < (line.size : Int)) = false := decide_eq_false (by omega)
  clear hv hG hA0 hT hE hc hs hlist hm hb1 hb0 hline hps hTr hws
  go_enter Tryz.func33, Tryz.ntmps33
  have hTr := HTT.out
  go_wp2_with (first | (go_at_call 56; refine HTrim.out.mono ?_; rintro e w1 ⟨rfl, hw1⟩; have HB1 := Aside0.mk (show Below w.heap.size w w1 by rcases hw1 with rfl | rfl; exact Below.refl _ _; exact below_drew (Below.refl _ _)); clear hw1) | (go_at_call 62; refine (HOdd.out _).mono ?_; rintro e w2 ⟨rfl, hb2⟩; have HB2 := Aside0.mk (HB1.out.trans (hb2.mono HB1.out.size)); clear hb2) | (go_at_call 65; refine (HSplit.out _ (HG.out.below HB2.out).maxl).mono ?_; rw [HC.out, HSP.out]; rintro e w3 ⟨rfl, hw3⟩; have HW3 := Aside0.mk (show WordsAt w3 w2.heap.size (kw :: ps) by rw [hw3]; exact words_new w2 _); have HB3 := Aside0.mk (show Below w.heap.size w w3 by rw [hw3]; exact below_alloc HB2.out _); have hz3 := Aside0.mk (show w3.heap.size = w2.heap.size + 1 by rw [hw3]; exact size_alloc _ _); clear hw3) | (go_at_call 64; refine (delete_none w2.heap.size _ (kw :: ps) (by rw [List.length_cons]; omega) (fun x hx => (HWS.out x hx).1) w3 HW3.out).mono ?_; rintro e w4 ⟨rfl, rfl⟩; have x0 := HW3.out 0 kw rfl; have hif := HV.out.noif))
  have HC10 := Aside0.mk (verbs_calls w4.drew)
  have x0d : w4.drew.cell? ⟨w2.heap.size, 0, none⟩ = some (.string kw) := x0
  have l0 : (0 : Int) < ((ps.length + 1 : Nat) : Int) := by omega
  clear hif HTrim HOdd HSplit hTr
  go_region_held3 (fun w' => w'.cell? ⟨w2.heap.size, 0, none⟩ = some (.string kw)) (first | (exact x0d) | (exact y0)) (((with_reducible refine HC10.out.mono ?_); rintro e w5 ⟨m, rfl, hm5, hv5, hb5⟩; have y0 := pw_cell_below hb5 x0d; have hlk := run_look HV.out hv5; have HV5 := Aside0.mk hv5; have HB5 := Aside0.mk hb5; have HM5 := Aside0.mk hm5; clear hv5 hb5 hm5))
  have HVB := Aside0.mk (HV5.out.verb i _ HV.out.row HV.out.lt)
  have HW5 := Aside0.mk (show WordsAt w5 w2.heap.size (kw :: ps) from fun j x hj => pw_cell_below HB5.out (show w4.drew.cell? _ = _ from HW3.out j x hj))
  have HBW5 := Aside0.mk (show Below w.heap.size w w5 from (below_drew HB3.out).trans (HB5.out.mono HB3.out.size))
  have k0 : w5.cell? ⟨m + 1 + i, 0, none⟩ = some (.string ks) := by rw [blk_cell HVB.out]; rfl
  have k1 : w5.cell? ⟨m + 1 + i, 1, none⟩ = some (.int .i64 least) := by rw [blk_cell HVB.out]; rfl
  have k2 : w5.cell? ⟨m + 1 + i, 2, none⟩ = some (.int .i64 most) := by rw [blk_cell HVB.out]; rfl
  have k4 : w5.cell? ⟨m + 1 + i, 4, none⟩ = some (.int .i64 0) := by rw [blk_cell HVB.out]; rfl
  have s1 := HV.out.size
  have s2 := HV.out.least
  have s3 := HV.out.most
  have u1 : IntKind.i64.wrap ((ks.size : Int) + (least : Int)) = (ks.size : Int) + (least : Int) := IntWalk.i64_in _ (by omega)
  have u2 : IntKind.i64.wrap ((ks.size : Int) + (most : Int)) = (ks.size : Int) + (most : Int) := IntWalk.i64_in _ (by omega)
  have u3 : decide ((ps.length : Int) < (ks.size : Int) + (least : Int)) = false := decide_eq_false (by omega)
  have u4 : decide ((ks.size : Int) + (most : Int) < (ps.length : Int)) = false := decide_eq_false (by omega)
  clear x0 x0d y0 hlk
  go_wp2
  go_quiet (fail)
  clear k0 k1 k2 k4 u1 u2 u3 u4 l0
  obtain ⟨w6, e6⟩ : ∃ w6, w5.drewN nq = w6 := ⟨_, rfl⟩
  have HB56 := Aside0.mk (show Below w5.heap.size w5 w6 by rw [← e6]; exact pw_below_drewN (Below.refl _ _) _)
  rw [e6]
  clear e6
  have HJN := Aside0.mk (Tryz.strings_Join w2.heap.size 0 (ps.length + 1) (kw :: ps) ⟨#[32]⟩ w6 (fun j x hj => by rw [Nat.zero_add]; exact pw_cell_below HB56.out (HW5.out j x hj)) (by
    have h1 := HB56.out.size
    have h2 := HB5.out.size
    have h3 := hz3.out
    have h4 : w4.drew.heap.size = w4.heap.size := rfl
    omega) (by rw [List.length_cons]; omega) (by rw [List.length_cons]; omega) (by
    have : (⟨#[32]⟩ : ByteArray).data.toList = [32] := rfl
    rw [this, ← HLI.out]
    have h2 : line.data.toList.length = line.size := by rw [Array.length_toList]; rfl
    omega))
  have HJE := Aside0.mk (show (⟨(Lib.join ((kw :: ps).map (·.data.toList)) (⟨#[32]⟩ : ByteArray).data.toList).toArray⟩ : ByteArray) = line by
    apply WideShapes.bytes_inj
    rw [HLI.out])
  by_cases hp : ps.length = 0
  · obtain rfl : ps = [] := List.eq_nil_of_length_eq_zero hp
    go_wp2_with (go_at_call 67; refine HJN.out.mono ?_; rw [HJE.out]; rintro e w7 ⟨rfl, hb7⟩; have HB67 := Aside0.mk hb7; clear hb7)
    have HBW7 := Aside0.mk (show Below w.heap.size w w7 from (HBW5.out.trans (HB56.out.mono HBW5.out.size)).trans (HB67.out.mono (Nat.le_trans HBW5.out.size HB56.out.size)))
    have HV7 := Aside0.mk (blk_below (blk_below HVB.out HB56.out) HB67.out)
    have HW7 := Aside0.mk (show WordsAt w7 w2.heap.size (kw :: []) from fun j x hj => pw_cell_below HB67.out (pw_cell_below HB56.out (HW5.out j x hj)))
    have hbl := World.block_lt_of_cell? w7 _ (HW7.out 0 kw rfl)
    have hvl := blk_lt HV7.out
    have HA8 := Aside0.mk (HA0.out w7.heap.size _ (heap_new w7 (argsA w7.heap.size (.slice none 0 0) (.slice none 0 0) (.slice none 0 0) line)) (below_alloc HBW7.out _))
    have HB8 := Aside0.mk (below_alloc HBW7.out (argsA w7.heap.size (.slice none 0 0) (.slice none 0 0) (.slice none 0 0) line))
    have HS8 := Aside0.mk (below_alloc (Below.refl _ w7) (argsA w7.heap.size (.slice none 0 0) (.slice none 0 0) (.slice none 0 0) line))
    have Z8 := Aside0.mk (size_alloc w7 (argsA w7.heap.size (.slice none 0 0) (.slice none 0 0) (.slice none 0 0) line))
    change Code.wp _ _ _ _ (w7.alloc (argsA w7.heap.size (.slice none 0 0) (.slice none 0 0) (.slice none 0 0) line))
    obtain ⟨a, ha⟩ : ∃ a, w7.heap.size = a := ⟨_, rfl⟩
    have HSZ := Aside0.mk ha
    rw [ha] at HA8 HB8 HS8 Z8 hbl hvl ⊢
    obtain ⟨w8, e8⟩ : ∃ w8, w7.alloc (argsA a (.slice none 0 0) (.slice none 0 0) (.slice none 0 0) line) = w8 := ⟨_, rfl⟩
    rw [e8] at HA8 HB8 HS8 Z8 ⊢
    clear ha e8
    go_loopg [108] 0 (fun q v108 wr => ∃ (k : Nat), v108 = .int .i64 k ∧ k + q = 0 ∧ Aside0 (A a k wr) ∧ Aside0 (Below a w8 wr))
    case atStart => exact ⟨0, rfl, by omega, HA8, ⟨Below.refl _ _⟩⟩
    case round =>
      obtain ⟨k, rfl, hkq, HAk, HBk⟩ := hrel
      obtain rfl : gk = 0 := by omega
      obtain rfl : k = 0 := by omega
      have hd : decide (((0 : Nat) : Int) < 0) = false := by decide
      have HVr := Aside0.mk (show wr.heap[m + 1 + i]? = some (verbO ks least most more 0 ch F) from (HBk.out.block _ hvl).trans ((HS8.out.block _ hvl).trans HV7.out))
      have HBr := Aside0.mk (show Below w.heap.size w wr from HB8.out.trans (HBk.out.mono (by have := HBW7.out.size; have := HSZ.out; omega)))
      have k5 : wr.cell? ⟨m + 1 + i, 5, none⟩ = some (.bool ch) := by rw [blk_cell HVr.out]; rfl
      obtain ⟨v0, v1, v2, hE⟩ := HE.out a wr HAk.out
      have HEr := Aside0.mk hE
      have q0 : wr.cell? ⟨a, 0, none⟩ = some v0 := by rw [blk_cell hE]; rfl
      have q1 : wr.cell? ⟨a, 1, none⟩ = some v1 := by rw [blk_cell hE]; rfl
      have q2 : wr.cell? ⟨a, 2, none⟩ = some v2 := by rw [blk_cell hE]; rfl
      have q3 : wr.cell? ⟨a, 3, none⟩ = some (.string line) := by rw [blk_cell hE]; rfl
      clear hE
      cases ch
      · go_wp2
        go_ret
        exact ⟨m + 1 + i, a, v0, v1, v2, rfl, HEr.out, HAk.out, HVr.out, HBr.out⟩
      · go_wp2
        go_ret
        exact ⟨m + 1 + i, a, v0, v1, v2, rfl, HEr.out, HAk.out, HVr.out, HBr.out⟩
  · have hp2 : 0 < ps.length := by omega
    have hp3 : ¬ (ps.length + 1 ≤ 1) := by omega
    have hp4 : ¬ (ps.length + 1 = 1) := by omega
    have hp5 : ps.length + 1 - 1 = ps.length := by omega
    go_wp2_with (go_at_call 67; refine HJN.out.mono ?_; rw [HJE.out]; rintro e w7 ⟨rfl, hb7⟩; have HB67 := Aside0.mk hb7; clear hb7)
    have HBW7 := Aside0.mk (show Below w.heap.size w w7 from (HBW5.out.trans (HB56.out.mono HBW5.out.size)).trans (HB67.out.mono (Nat.le_trans HBW5.out.size HB56.out.size)))
    have HV7 := Aside0.mk (blk_below (blk_below HVB.out HB56.out) HB67.out)
    have HW7 := Aside0.mk (show WordsAt w7 w2.heap.size (kw :: ps) from fun j x hj => pw_cell_below HB67.out (pw_cell_below HB56.out (HW5.out j x hj)))
    have hbl := World.block_lt_of_cell? w7 _ (HW7.out 0 kw rfl)
    have hvl := blk_lt HV7.out
    have HA8 := Aside0.mk (HA0.out w7.heap.size _ (heap_new w7 (argsA w7.heap.size (.slice none 0 0) (.slice none 0 0) (.slice none 0 0) line)) (below_alloc HBW7.out _))
    have HB8 := Aside0.mk (below_alloc HBW7.out (argsA w7.heap.size (.slice none 0 0) (.slice none 0 0) (.slice none 0 0) line))
    have HS8 := Aside0.mk (below_alloc (Below.refl _ w7) (argsA w7.heap.size (.slice none 0 0) (.slice none 0 0) (.slice none 0 0) line))
    have Z8 := Aside0.mk (size_alloc w7 (argsA w7.heap.size (.slice none 0 0) (.slice none 0 0) (.slice none 0 0) line))
    change Code.wp _ _ _ _ (w7.alloc (argsA w7.heap.size (.slice none 0 0) (.slice none 0 0) (.slice none 0 0) line))
    obtain ⟨a, ha⟩ : ∃ a, w7.heap.size = a := ⟨_, rfl⟩
    have HSZ := Aside0.mk ha
    rw [ha] at HA8 HB8 HS8 Z8 hbl hvl ⊢
    obtain ⟨w8, e8⟩ : ∃ w8, w7.alloc (argsA a (.slice none 0 0) (.slice none 0 0) (.slice none 0 0) line) = w8 := ⟨_, rfl⟩
    rw [e8] at HA8 HB8 HS8 Z8 ⊢
    clear ha e8
    go_loopg [108] ps.length (fun q v108 wr => ∃ (k : Nat), v108 = .int .i64 k ∧ k + q = ps.length ∧ Aside0 (A a k wr) ∧ Aside0 (Below a w8 wr))
    case atStart => exact ⟨0, rfl, by omega, HA8, ⟨Below.refl _ _⟩⟩
    case round =>
      obtain ⟨k, rfl, hkq, HAk, HBk⟩ := hrel
      by_cases hlt : k < ps.length
      · obtain ⟨q, rfl⟩ : ∃ q, gk = q + 1 := ⟨gk - 1, by omega⟩
        have hd : decide ((k : Int) < (ps.length : Int)) = true := decide_eq_true (by omega)
        have HVr := Aside0.mk (show wr.heap[m + 1 + i]? = some (verbO ks least most more 0 ch F) from (HBk.out.block _ hvl).trans ((HS8.out.block _ hvl).trans HV7.out))
        have HK := Aside0.mk (kind_calls (m + 1 + i) ks more _ _ _ _ _ k (by omega) (by omega) wr HVr.out)
        have HBr := Aside0.mk (show Below w.heap.size w wr from HB8.out.trans (HBk.out.mono (by have := HBW7.out.size; have := HSZ.out; omega)))
        have HTk := Aside0.mk (HT.out a k wr hlt (by have := HBk.out.size; have := Z8.out; have := HSZ.out; omega) HBr.out HAk.out)
        have x1 : wr.cell? ⟨w2.heap.size, 1 + k, none⟩ = some (.string ps[k]) := by
          have h1 := HW7.out (k + 1) ps[k] (by rw [List.getElem?_cons_succ, List.getElem?_eq_getElem hlt])
          rw [Nat.add_comm]
          unfold World.cell? at h1 ⊢
          rw [show wr.heap[(⟨w2.heap.size, k + 1, none⟩ : Addr).block]? = w7.heap[(⟨w2.heap.size, k + 1, none⟩ : Addr).block]? from (HBk.out.block _ hbl).trans (HS8.out.block _ hbl)]
          exact h1
        obtain ⟨x, hx⟩ : ∃ x, ps[k] = x := ⟨_, rfl⟩
        rw [hx] at x1 HTk
        clear hx
        go_wp2_with (first | (go_at_call 70; refine HK.out.mono ?_; rintro e w9 ⟨rfl, rfl⟩) | (go_at_call 69; refine HTk.out.mono ?_; rintro e w10 ⟨rfl, ha10, hb10⟩; have HA10 := Aside0.mk ha10; have HB10 := Aside0.mk hb10; clear ha10 hb10))
        go_roundg q
        case measure => omega
        case rel => exact ⟨k + 1, by go_num, by omega, HA10, ⟨HBk.out.trans HB10.out⟩⟩
      · obtain rfl : gk = 0 := by omega
        obtain rfl : k = ps.length := by omega
        have hd : decide ((ps.length : Int) < (ps.length : Int)) = false := decide_eq_false (by omega)
        have HVr := Aside0.mk (show wr.heap[m + 1 + i]? = some (verbO ks least most more 0 ch F) from (HBk.out.block _ hvl).trans ((HS8.out.block _ hvl).trans HV7.out))
        have HBr := Aside0.mk (show Below w.heap.size w wr from HB8.out.trans (HBk.out.mono (by have := HBW7.out.size; have := HSZ.out; omega)))
        have k5 : wr.cell? ⟨m + 1 + i, 5, none⟩ = some (.bool ch) := by rw [blk_cell HVr.out]; rfl
        obtain ⟨v0, v1, v2, hE⟩ := HE.out a wr HAk.out
        have HEr := Aside0.mk hE
        have q0 : wr.cell? ⟨a, 0, none⟩ = some v0 := by rw [blk_cell hE]; rfl
        have q1 : wr.cell? ⟨a, 1, none⟩ = some v1 := by rw [blk_cell hE]; rfl
        have q2 : wr.cell? ⟨a, 2, none⟩ = some v2 := by rw [blk_cell hE]; rfl
        have q3 : wr.cell? ⟨a, 3, none⟩ = some (.string line) := by rw [blk_cell hE]; rfl
        clear hE
        cases ch
        · go_wp2
          go_ret
          exact ⟨m + 1 + i, a, v0, v1, v2, rfl, HEr.out, HAk.out, HVr.out, HBr.out⟩
        · go_wp2
          go_ret
          exact ⟨m + 1 + i, a, v0, v1, v2, rfl, HEr.out, HAk.out, HVr.out, HBr.out⟩
end Go.Proofs.YtldohjlcckbfaaaGreatDoor.Hand
