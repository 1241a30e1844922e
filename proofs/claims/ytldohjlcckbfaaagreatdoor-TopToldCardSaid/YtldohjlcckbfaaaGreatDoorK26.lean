/- A part of the proof that pomadetop.TopTold returns true for every input: HandTm, HandTn. No condition beyond those that each theorem states. -/
import Derived.Test.YtldohjlcckbfaaaGreatDoorK25
namespace Go.Proofs.YtldohjlcckbfaaaGreatDoor.Hand
open Go.RowKit Go.Proofs.YtldohjlcckbfaaaGreatDoorW.PrintWords Go.Proofs.YtldohjlcckbfaaaGreatDoorW.PrintLast Go.Proofs.YtldohjlcckbfaaaGreatDoorW.PrintMore
set_option linter.unusedVariables false
set_option linter.unusedSimpArgs false
open Go.Proofs.YtldohjlcckbfaaaGreatDoor.Pre
open TopWords
theorem verb_tell : VerbIs 15 ⟨#[116, 101, 108, 108]⟩ ⟨#[119]⟩ 0 0 0 false 122 :=
  { row := by kernel_rfl, find := fun m => by kernel_rfl, word := by unfold wordB; decide, noif := by kernel_rfl, size := by decide, least := by decide, most := by decide, lt := by decide }
theorem verb_plait : VerbIs 16 ⟨#[112, 108, 97, 105, 116]⟩ ⟨#[105]⟩ 1 20 105 false 123 :=
  { row := by kernel_rfl, find := fun m => by kernel_rfl, word := by unfold wordB; decide, noif := by kernel_rfl, size := by decide, least := by decide, most := by decide, lt := by decide }
theorem verb_roads : VerbIs 17 ⟨#[114, 111, 97, 100, 115]⟩ ⟨#[119, 119]⟩ 0 0 0 false 124 :=
  { row := by kernel_rfl, find := fun m => by kernel_rfl, word := by unfold wordB; decide, noif := by kernel_rfl, size := by decide, least := by decide, most := by decide, lt := by decide }
theorem verb_hex : VerbIs 18 ⟨#[104, 101, 120]⟩ ⟨#[119]⟩ 0 0 0 false 125 :=
  { row := by kernel_rfl, find := fun m => by kernel_rfl, word := by unfold wordB; decide, noif := by kernel_rfl, size := by decide, least := by decide, most := by decide, lt := by decide }
theorem ArgsW.below {w w' : World} {B a : Nat} {ws : List ByteArray} {line : ByteArray} (h : ArgsW w B a ws line) (hb : Below w.heap.size w w') : ArgsW w' B a ws line := by
  obtain ⟨hge, v2, ha, ho⟩ := h
  exact ⟨hge, v2, blk_below ha hb, pw_own_below ho hb⟩
theorem ArgsN.below {w w' : World} {B a : Nat} {N : List Int} {nm : List ByteArray} {line : ByteArray} (h : ArgsN w B a N nm line) (hb : Below w.heap.size w w') : ArgsN w' B a N nm line := by
  obtain ⟨hge, v0, v1, ha, ho, ho1⟩ := h
  exact ⟨hge, v0, v1, blk_below ha hb, pw_own_below ho hb, pw_own_below ho1 hb⟩
def StrRow (W : World) (g : Nat) (ps : List ByteArray) : Prop := ∀ (j : Nat) x, ps[j]? = some x → W.cell? ⟨g, j, none⟩ = some (.string x)
def IntRow (W : World) (g : Nat) (N : List Int) : Prop := ∀ (j : Nat) x, N[j]? = some x → W.cell? ⟨g, j, none⟩ = some (.int .i64 x)
theorem own_cap {w : World} {base e n : Nat} {v : Value} {xs : List Value} (h : w.ownsRow base e 1 v n xs) (hn : 0 < n) : ∃ g c, v = .slice (some ⟨g, 0, none⟩) n c ∧ n ≤ c := by
  rcases h.2 with ⟨_, h0⟩ | ⟨g, cap, cur, hv, _, _, hc, _⟩
  · omega
  · exact ⟨g, cap, hv, hc⟩
theorem itoaB_word (n : Int) : wordB (itoaB n) := by
  have h := itoa_ne n
  refine ⟨?_, ?_⟩
  · show 0 < (Lib.itoa n).toArray.size
    rw [List.size_toArray]
    exact List.length_pos_iff.2 h
  · rw [itoaB_list]
    exact itoa_mem n
set_option maxHeartbeats 2000000 in
set_option maxRecDepth 100000 in
theorem exec_words {i : Nat} {kw ks : ByteArray} {F : Nat} (hv : VerbIs i kw ks 0 0 0 false F) (hk : ∀ k, k < ks.size → kindF ks 0 k = 119) (ps : List ByteArray) (hps : ∀ x ∈ ps, wordB x) (hlen : ps.length = ks.size) (hpos : 0 < ks.size)
    (hl : (lineOf (kw :: ps)).size ≤ 300) (w : World) (hG : Glob w) (p : Nat) (S : Sh) (hs : ShopAt w p S) (r : ByteArray)
    (eg : ∀ args w, (callFunc F args).run Tryz.prog w = .ok (.enter F args) w)
    (hF : ∀ W q g c v0 v1 v3, Below w.heap.size w W → StrRow W g ps → Calls Tryz.prog F #[.pointer (some ⟨q, 0, none⟩), .agg #[v0, v1, .slice (some ⟨g, 0, none⟩) ps.length c, v3]] W fun e W' => e = .returned (.string r) ∧ Below W.heap.size W W') :
    Calls Tryz.prog 14 #[.pointer (some ⟨p, 0, none⟩), .string (lineOf (kw :: ps))] w fun e w' => e = .returned (.string r) ∧ Below w.heap.size w w' := by
  have hsz := hv.size
  refine exec_look hv ps hps hl (by omega) (by omega) (by omega) (fun a k W => ArgsW W a a (ps.take k) (lineOf (kw :: ps))) w hG p S hs r eg ?_ ?_ ?_ ?_ ?_
  · intro a W ha _
    exact ⟨Nat.le_refl _, _, ha, own_nil _ _ _ _⟩
  · intro a k W hk2 hal hb hA
    rw [hk k (by omega)]
    refine (take_w a a (ps.take k) _ (by rw [List.length_take]; omega) ps[k] W (by omega) hA).mono ?_
    rintro e W' ⟨rfl, h1, h2⟩
    rw [List.take_append_getElem] at h1
    exact ⟨rfl, h1, h2⟩
  · intro a W h
    obtain ⟨_, v2, h, _⟩ := h
    exact ⟨_, _, v2, h⟩
  · intro a k W W' h hb
    exact h.below hb
  · intro W q a v0 v1 v2 hb hq hA ha
    rw [List.take_length] at hA
    obtain ⟨_, v, h, ho⟩ := hA
    rw [h] at ha
    simp only [argsA, Option.some.injEq, Obj.cells.injEq, Array.mk.injEq, List.cons.injEq, and_true, true_and] at ha
    obtain ⟨rfl, rfl, rfl⟩ := ha
    obtain ⟨g, c, rfl, _, _⟩ := ho.form (by omega)
    refine hF W q g c _ _ _ hb ?_
    intro j x hj
    have := ho.cells rfl j (.string x) (by rw [List.getElem?_map, hj]; rfl)
    rwa [Addr.add_lit, Nat.zero_add] at this
set_option maxHeartbeats 2000000 in
set_option maxRecDepth 100000 in
theorem plait_exec_ok (N : List Int) (hN : 2 ≤ N.length) (hN2 : N.length ≤ 21) (hb : ∀ x ∈ N, -1125899906842624 ≤ x ∧ x ≤ 1125899906842624)
    (hl : (lineOf (⟨#[112, 108, 97, 105, 116]⟩ :: N.map itoaB)).size ≤ 300) (w : World) (hG : Glob w) (p : Nat) (S : Sh) (hs : ShopAt w p S) (r : ByteArray)
    (eg : ∀ args w, (callFunc 123 args).run Tryz.prog w = .ok (.enter 123 args) w)
    (hF : ∀ W q g c v1 v2 v3, Below w.heap.size w W → N.length ≤ c → IntRow W g N → Calls Tryz.prog 123 #[.pointer (some ⟨q, 0, none⟩), .agg #[.slice (some ⟨g, 0, none⟩) N.length c, v1, v2, v3]] W fun e W' => e = .returned (.string r) ∧ Below W.heap.size W W') :
    Calls Tryz.prog 14 #[.pointer (some ⟨p, 0, none⟩), .string (lineOf (⟨#[112, 108, 97, 105, 116]⟩ :: N.map itoaB))] w fun e w' => e = .returned (.string r) ∧ Below w.heap.size w w' := by
  have hps : ∀ x ∈ N.map itoaB, wordB x := by
    intro x hx
    obtain ⟨n, _, rfl⟩ := List.mem_map.1 hx
    exact itoaB_word n
  have h1 : (ByteArray.mk #[105]).size = 1 := rfl
  have hkd : ∀ k, kindF ⟨#[105]⟩ 105 k = 105 := by
    intro k
    unfold kindF
    split
    · rename_i h
      have : k = 0 := by rw [h1] at h; omega
      subst this
      rfl
    · rfl
  refine exec_look verb_plait (N.map itoaB) hps hl (by rw [List.length_map]; omega) (by rw [List.length_map]; omega) (by rw [List.length_map]; omega) (fun a k W => ArgsN W a a (N.take k) [] (lineOf (⟨#[112, 108, 97, 105, 116]⟩ :: N.map itoaB))) w hG p S hs r eg ?_ ?_ ?_ ?_ ?_
  · intro a W ha _
    exact ⟨Nat.le_refl _, _, _, ha, own_nil _ _ _ _, own_nil _ _ _ _⟩
  · intro a k W hk2 hal hbW hA
    rw [hkd k]
    have hk3 : k < N.length := by rwa [List.length_map] at hk2
    rw [List.getElem_map]
    obtain ⟨b1, b2⟩ := hb N[k] (List.getElem_mem hk3)
    refine (take_i a a (N.take k) [] _ (by rw [List.length_take]; omega) N[k] b1 b2 W (hG.below hbW) (by omega) hA).mono ?_
    rintro e W' ⟨rfl, h1, h2⟩
    rw [List.take_append_getElem] at h1
    exact ⟨rfl, h1, h2⟩
  · intro a W h
    obtain ⟨_, v0, v1, h, _⟩ := h
    exact ⟨v0, v1, _, h⟩
  · intro a k W W' h hb
    exact h.below hb
  · intro W q a v0 v1 v2 hb hq hA ha
    rw [List.length_map, List.take_length] at hA
    obtain ⟨_, v, v', h, ho, _⟩ := hA
    rw [h] at ha
    simp only [argsA, Option.some.injEq, Obj.cells.injEq, Array.mk.injEq, List.cons.injEq, and_true, true_and] at ha
    obtain ⟨rfl, rfl, rfl⟩ := ha
    obtain ⟨g, c, rfl, hc⟩ := own_cap ho (by omega)
    refine hF W q g c _ _ _ hb hc ?_
    intro j x hj
    have := ho.cells rfl j (.int .i64 x) (by rw [nums, List.getElem?_map, hj]; rfl)
    rwa [Addr.add_lit, Nat.zero_add] at this
set_option maxHeartbeats 2000000 in
set_option maxRecDepth 100000 in
theorem exec_words_no {i : Nat} {kw ks : ByteArray} {F : Nat} (hv : VerbIs i kw ks 0 0 0 false F) (hk : ∀ k, k < ks.size → kindF ks 0 k = 119) (ps : List ByteArray) (hps : ∀ x ∈ ps, wordB x) (hlen : ps.length = ks.size) (hpos : 0 < ks.size)
    (hl : (lineOf (kw :: ps)).size ≤ 300) (w : World) (hG : Glob w) (p : Nat) (S : Sh) (hs : ShopAt w p S) (rc : Int) (rc0 : 0 ≤ rc) (rc1 : rc ≤ 100)
    (eg : ∀ args w, (callFunc F args).run Tryz.prog w = .ok (.enter F args) w)
    (hF : ∀ W q g c v0 v1 v3, Below w.heap.size w W → StrRow W g ps → Calls Tryz.prog F #[.pointer (some ⟨q, 0, none⟩), .agg #[v0, v1, .slice (some ⟨g, 0, none⟩) ps.length c, v3]] W fun e W' => e = .panicked (refusalC rc) ∧ Below W.heap.size W W') :
    Calls Tryz.prog 14 #[.pointer (some ⟨p, 0, none⟩), .string (lineOf (kw :: ps))] w fun e w' => e = .returned (.string (bangB rc)) ∧ Below w.heap.size w w' := by
  have hsz := hv.size
  refine exec_no hv ps hps hl (by omega) (by omega) (by omega) (fun a k W => ArgsW W a a (ps.take k) (lineOf (kw :: ps))) w hG p S hs rc rc0 rc1 eg ?_ ?_ ?_ ?_ ?_
  · intro a W ha _
    exact ⟨Nat.le_refl _, _, ha, own_nil _ _ _ _⟩
  · intro a k W hk2 hal hb hA
    rw [hk k (by omega)]
    refine (take_w a a (ps.take k) _ (by rw [List.length_take]; omega) ps[k] W (by omega) hA).mono ?_
    rintro e W' ⟨rfl, h1, h2⟩
    rw [List.take_append_getElem] at h1
    exact ⟨rfl, h1, h2⟩
  · intro a W h
    obtain ⟨_, v2, h, _⟩ := h
    exact ⟨_, _, v2, h⟩
  · intro a k W W' h hb
    exact h.below hb
  · intro W q a v0 v1 v2 hb hq hA ha
    rw [List.take_length] at hA
    obtain ⟨_, v, h, ho⟩ := hA
    rw [h] at ha
    simp only [argsA, Option.some.injEq, Obj.cells.injEq, Array.mk.injEq, List.cons.injEq, and_true, true_and] at ha
    obtain ⟨rfl, rfl, rfl⟩ := ha
    obtain ⟨g, c, rfl, _, _⟩ := ho.form (by omega)
    refine hF W q g c _ _ _ hb ?_
    intro j x hj
    have := ho.cells rfl j (.string x) (by rw [List.getElem?_map, hj]; rfl)
    rwa [Addr.add_lit, Nat.zero_add] at this
set_option maxHeartbeats 2000000 in
set_option maxRecDepth 100000 in
theorem plait_exec_no (N : List Int) (hN : 2 ≤ N.length) (hN2 : N.length ≤ 21) (hb : ∀ x ∈ N, -1125899906842624 ≤ x ∧ x ≤ 1125899906842624)
    (hl : (lineOf (⟨#[112, 108, 97, 105, 116]⟩ :: N.map itoaB)).size ≤ 300) (w : World) (hG : Glob w) (p : Nat) (S : Sh) (hs : ShopAt w p S) (rc : Int) (rc0 : 0 ≤ rc) (rc1 : rc ≤ 100)
    (eg : ∀ args w, (callFunc 123 args).run Tryz.prog w = .ok (.enter 123 args) w)
    (hF : ∀ W q g c v1 v2 v3, Below w.heap.size w W → N.length ≤ c → IntRow W g N → Calls Tryz.prog 123 #[.pointer (some ⟨q, 0, none⟩), .agg #[.slice (some ⟨g, 0, none⟩) N.length c, v1, v2, v3]] W fun e W' => e = .panicked (refusalC rc) ∧ Below W.heap.size W W') :
    Calls Tryz.prog 14 #[.pointer (some ⟨p, 0, none⟩), .string (lineOf (⟨#[112, 108, 97, 105, 116]⟩ :: N.map itoaB))] w fun e w' => e = .returned (.string (bangB rc)) ∧ Below w.heap.size w w' := by
  have hps : ∀ x ∈ N.map itoaB, wordB x := by
    intro x hx
    obtain ⟨n, _, rfl⟩ := List.mem_map.1 hx
    exact itoaB_word n
  have h1 : (ByteArray.mk #[105]).size = 1 := rfl
  have hkd : ∀ k, kindF ⟨#[105]⟩ 105 k = 105 := by
    intro k
    unfold kindF
    split
    · rename_i h
      have : k = 0 := by rw [h1] at h; omega
      subst this
      rfl
    · rfl
  refine exec_no verb_plait (N.map itoaB) hps hl (by rw [List.length_map]; omega) (by rw [List.length_map]; omega) (by rw [List.length_map]; omega) (fun a k W => ArgsN W a a (N.take k) [] (lineOf (⟨#[112, 108, 97, 105, 116]⟩ :: N.map itoaB))) w hG p S hs rc rc0 rc1 eg ?_ ?_ ?_ ?_ ?_
  · intro a W ha _
    exact ⟨Nat.le_refl _, _, _, ha, own_nil _ _ _ _, own_nil _ _ _ _⟩
  · intro a k W hk2 hal hbW hA
    rw [hkd k]
    have hk3 : k < N.length := by rwa [List.length_map] at hk2
    rw [List.getElem_map]
    obtain ⟨b1, b2⟩ := hb N[k] (List.getElem_mem hk3)
    refine (take_i a a (N.take k) [] _ (by rw [List.length_take]; omega) N[k] b1 b2 W (hG.below hbW) (by omega) hA).mono ?_
    rintro e W' ⟨rfl, h1, h2⟩
    rw [List.take_append_getElem] at h1
    exact ⟨rfl, h1, h2⟩
  · intro a W h
    obtain ⟨_, v0, v1, h, _⟩ := h
    exact ⟨v0, v1, _, h⟩
  · intro a k W W' h hb
    exact h.below hb
  · intro W q a v0 v1 v2 hb hq hA ha
    rw [List.length_map, List.take_length] at hA
    obtain ⟨_, v, v', h, ho, _⟩ := hA
    rw [h] at ha
    simp only [argsA, Option.some.injEq, Obj.cells.injEq, Array.mk.injEq, List.cons.injEq, and_true, true_and] at ha
    obtain ⟨rfl, rfl, rfl⟩ := ha
    obtain ⟨g, c, rfl, hc⟩ := own_cap ho (by omega)
    refine hF W q g c _ _ _ hb hc ?_
    intro j x hj
    have := ho.cells rfl j (.int .i64 x) (by rw [nums, List.getElem?_map, hj]; rfl)
    rwa [Addr.add_lit, Nat.zero_add] at this
end Go.Proofs.YtldohjlcckbfaaaGreatDoor.Hand
namespace Go.Proofs.YtldohjlcckbfaaaGreatDoor.Hand
open Go.RowKit Go.Proofs.YtldohjlcckbfaaaGreatDoorW.PrintWords Go.Proofs.YtldohjlcckbfaaaGreatDoorW.PrintLast Go.Proofs.YtldohjlcckbfaaaGreatDoorW.PrintMore
set_option linter.unusedVariables false
set_option linter.unusedSimpArgs false
open Go.Proofs.YtldohjlcckbfaaaGreatDoor.Pre
open TopWords
theorem join_len (m : Nat) : ∀ ws : List (List UInt8), (∀ x ∈ ws, x.length ≤ m) → (Lib.join ws [32]).length ≤ ws.length * (m + 1)
  | [], _ => by simp [Lib.join, List.intercalate]
  | [x], h => by
    have h1 := h x (by simp)
    have : Lib.join [x] [32] = x := by simp [Lib.join, List.intercalate, List.intersperse]
    rw [this]
    simp only [List.length_cons, List.length_nil, Nat.zero_add, Nat.one_mul]
    omega
  | x :: y :: t, h => by
    have h1 := h x (by simp)
    have h2 := join_len m (y :: t) (fun z hz => h z (List.mem_cons_of_mem _ hz))
    rw [join_cons, List.length_append, List.length_append]
    show _ ≤ ((y :: t).length + 1) * (m + 1)
    rw [Nat.succ_mul]
    have : [(32 : UInt8)].length = 1 := rfl
    omega
theorem line_len (N : List Int) (hl : N.length ≤ 1000) (hb : ∀ x ∈ N, -9223372036854775808 ≤ x ∧ x ≤ 9223372036854775807) : (Lib.join ((N.map itoaB).map (·.data.toList)) [32]).length ≤ 22000 := by
  have h := join_len 21 ((N.map itoaB).map (·.data.toList)) (by
    intro x hx
    simp only [List.map_map, List.mem_map, Function.comp_apply] at hx
    obtain ⟨n, hn, rfl⟩ := hx
    rw [itoaB_list]
    obtain ⟨h1, h2⟩ := hb n hn
    have := Lib.itoa_length_le n (by omega) (by omega)
    omega)
  simp only [List.length_map] at h
  omega
set_option maxHeartbeats 4000000 in
set_option maxRecDepth 100000 in
theorem joined_calls (A : Option Addr) (c : Nat) (N : List Int) (hl : N.length ≤ 1000) (hb : ∀ x ∈ N, -9223372036854775808 ≤ x ∧ x ≤ 9223372036854775807) (w : World) (hG : Glob w) (h : ReadsInt w .i64 A N.length N) :
    Calls Tryz.prog 159 #[.slice A N.length c] w fun e w' => e = .returned (.string (lineOf (N.map itoaB))) ∧ Below w.heap.size w w' := by
  have HG := Aside0.mk hG
  have HR := Aside0.mk h
  have HLN := Aside0.mk (line_len N hl hb)
  have HBd := Aside0.mk hb
  have info9 : (Tryz.prog.info? 9).map (fun i => (i.zero, i.size, i.bytes)) = some (some (.string ByteArray.empty), 1, 16) := by kernel_rfl
  obtain ⟨i0, hi0, hz0, hz1, hz2⟩ := info_parts info9
  clear hG h hb info9
  go_enter Tryz.func159, Tryz.ntmps159
  go_wp2
  go_loopg [3, 8] N.length (fun q v3 v8 wr => ∃ k : Nat, v8 = .int .i64 k ∧ k + q = N.length ∧ Aside0 (wr.ownsRow w.heap.size 9 1 v3 k ((N.take k).map fun x => Value.string (itoaB x))) ∧ Aside0 (Below w.heap.size w wr))
  case atStart => exact ⟨0, rfl, by omega, ⟨own_nil _ _ _ _⟩, ⟨Below.refl _ _⟩⟩
  case round =>
    obtain ⟨k, rfl, hkq, HO, HB⟩ := hrel
    by_cases hlt : k < N.length
    · obtain ⟨q, rfl⟩ : ∃ q, gk = q + 1 := ⟨gk - 1, by omega⟩
      have hd : decide ((k : Int) < (N.length : Int)) = true := decide_eq_true (by omega)
      obtain ⟨ad, rfl, hc⟩ := (HR.out.below HB.out).at_ k (by omega) (by omega)
      rw [Int.toNat_natCast] at hc
      have HX := Aside0.mk (show N.take (k + 1) = N.take k ++ [rd N k] by
        rw [← List.take_append_getElem hlt]
        simp [rd, List.getD_eq_getElem?_getD, List.getElem?_eq_getElem hlt])
      obtain ⟨hx1, hx2⟩ := HBd.out (rd N k) (by simp [rd, List.getD_eq_getElem?_getD, List.getElem?_eq_getElem hlt])
      obtain ⟨x, hx⟩ : ∃ x, rd N k = x := ⟨_, rfl⟩
      rw [hx] at hc HX hx1 hx2
      have HI := Aside0.mk (itoa_calls x hx1 hx2 wr (HG.out.below HB.out))
      clear hx hx1 hx2
      go_wp2_with (first | (go_at_call 71; refine HI.out.mono ?_; rintro e w1 ⟨rfl, hb1⟩; have HB1 := Aside0.mk (show Below w.heap.size w w1 from HB.out.trans (hb1.mono HB.out.size)); have HO1 := Aside0.mk (pw_own_below HO.out hb1); clear hb1) | (at_builtin; refine wpList_append_own _ rfl _ _ 61 rfl w.heap.size 9 i0 (.string ByteArray.empty) 1 16 Tryz.underlying61 hi0 hz0 hz1 hz2 rfl (by decide) _ k _ rfl (HO1.out.alloc _) ⟨w1.heap.size, 0, none⟩ 1 1 [.string (itoaB x)] rfl rfl ?c1 ?c2 ?c3 ?c4 ?c5 ?_))
      case c1 => intro j u hj; rw [Addr.add_lit, Nat.zero_add, blk_cell (heap_new w1 _)]; simpa using hj
      case c2 => intro u hu; rw [List.mem_singleton] at hu; subst hu; rfl
      case c3 => simp only [maxLen]; omega
      case c4 => omega
      case c5 => have q := HB1.out.size; simp only [size_alloc]; omega
      intro v' w2 hown hgrow hiff
      have HO2 := Aside0.mk hown
      have HB2 := Aside0.mk (show Below w.heap.size w w2 from (HB1.out.alloc HB1.out.size (Obj.cells #[Value.string (itoaB x)] 9)).grown hgrow (by have q := HB1.out.size; simp only [size_alloc]; omega) (fun j hj => own_base HO1.out j hj))
      clear hgrow hown hiff
      go_wp2
      go_roundg q
      case measure => omega
      case rel => exact ⟨k + 1, by go_num, by omega, ⟨by rw [HX.out, List.map_append, List.map_take]; exact HO2.out⟩, HB2⟩
    · have hd : decide ((k : Int) < (N.length : Int)) = false := decide_eq_false (by omega)
      obtain rfl : k = N.length := by omega
      have ho := HO.out
      rw [List.take_length] at ho
      by_cases h0 : 0 < N.length
      · obtain ⟨g, c', rfl, hcc⟩ := own_cap ho h0
        have hgl := own_lt ho g rfl
        have HJ := Aside0.mk (Tryz.strings_Join g 0 c' (N.map itoaB) ⟨#[32]⟩ wr (fun j x hj => by
          have := ho.cells rfl j (.string x) (by
            rw [List.getElem?_map] at hj ⊢
            cases hq : N[j]? with
            | none => rw [hq] at hj; cases hj
            | some y => rw [hq] at hj; cases hj; rfl)
          rw [Addr.add_lit] at this; exact this) hgl (by rw [List.length_map]; omega) (by rw [List.length_map]; omega) (by
            have : (⟨#[32]⟩ : ByteArray).data.toList = [32] := rfl
            rw [this]
            have := HLN.out
            omega))
        rw [List.length_map] at HJ
        clear ho
        go_wp2_with (go_at_call 67; refine HJ.out.mono ?_; rintro e w7 ⟨rfl, hb7⟩; have HB7 := Aside0.mk (HB.out.trans (hb7.mono HB.out.size)); clear hb7)
        go_ret
        exact ⟨by simp [lineOf], HB7.out⟩
      · obtain rfl : N = [] := List.eq_nil_of_length_eq_zero (by omega)
        rcases ho.2 with ⟨rfl, _⟩ | ⟨g, c', cur, rfl, _⟩
        all_goals
          clear ho
          go_wp2_with (go_at_call 67; refine (Tryz.strings_Join_none _ _ _ _).mono ?_; rintro e w7 ⟨rfl, rfl⟩)
          go_ret
          exact ⟨rfl, HB.out⟩
end Go.Proofs.YtldohjlcckbfaaaGreatDoor.Hand
