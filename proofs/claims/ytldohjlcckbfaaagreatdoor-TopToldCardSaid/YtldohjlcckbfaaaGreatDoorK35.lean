/- A part of the proof that pomadetop.TopTold returns true for every input: HandUl, HandUm, HandUn, HandUo. No condition beyond those that each theorem states. -/
import Derived.Test.YtldohjlcckbfaaaGreatDoorK34
namespace Go.Proofs.YtldohjlcckbfaaaGreatDoor.Hand
open Go.RowKit Go.Proofs.YtldohjlcckbfaaaGreatDoorW.PrintWords Go.Proofs.YtldohjlcckbfaaaGreatDoorW.PrintLast Go.Proofs.YtldohjlcckbfaaaGreatDoorW.PrintMore
set_option linter.unusedVariables false
set_option linter.unusedSimpArgs false
open Go.Proofs.YtldohjlcckbfaaaGreatDoor.Pre
open TopWords
theorem next63 : v0 (nextF 63) = 63 ∧ 0 < (nextF 63).size := by decide +kernel
theorem rep10 (w : World) : Calls Tryz.prog 85 #[.string ⟨#[63]⟩, .int .i64 10] w fun e w' => e = .returned (.string ⟨#[63, 63, 63, 63, 63, 63, 63, 63, 63, 63]⟩) ∧ Below w.heap.size w w' :=
  (Tryz.strings_Repeat ⟨#[63]⟩ 10 w (by decide) (by decide)).mono fun e w' ⟨he, hb⟩ => ⟨he.trans (by rfl), hb⟩
set_option maxHeartbeats 4000000 in
set_option maxRecDepth 100000 in
theorem least10 (g cap : Nat) (w : World) (h : SenRow w g) :
    Calls Tryz.prog 46 #[.slice (some ⟨g, 0, none⟩) 10 cap] w fun e w' => ∃ v, e = .returned (.tuple #[.string v, .int .i64 0]) ∧ Below w.heap.size w w' := by
  have HO := Aside0.mk (of_10 g cap w h)
  clear h
  go_enter Tryz.func46, Tryz.ntmps46
  go_wp2_with (first | (go_at_call 84; refine HO.out.mono ?_; rintro e w1 ⟨g1, c1, rfl, hg1, hf, hb1⟩; have HF1 := Aside0.mk hf; have HB1 := Aside0.mk hb1; clear hf hb1 hg1) | (go_at_call 85; refine (rep10 _).mono ?_; rintro e w2 ⟨rfl, hb2⟩; have HF2 := Aside0.mk (show FrmRow w2 g1 from fun j hj => pw_cell_below hb2 (HF1.out j hj)); have HB2 := Aside0.mk (HB1.out.trans (hb2.mono HB1.out.size)); clear hb2))
  go_loopg [6, 20] 10 (fun q v6 v20 wr => ∃ (k : Nat) (v : ByteArray), v20 = .int .i64 k ∧ k + q = 10 ∧ v6 = .string v ∧ Aside0 (0 < v.size ∧ v0 v = 63) ∧ Aside0 (FrmRow wr g1) ∧ Aside0 (Below w.heap.size w wr))
  case atStart => exact ⟨0, _, rfl, rfl, rfl, ⟨by decide +kernel⟩, HF2, HB2⟩
  case round =>
    obtain ⟨k, v, rfl, hkq, rfl, HV, HF, HB⟩ := hrel
    by_cases hlt : k < 10
    · obtain ⟨q', rfl⟩ : ∃ q, gk = q + 1 := ⟨gk - 1, by omega⟩
      have hd : decide ((k : Int) < 10) = true := decide_eq_true (by omega)
      have HN := Aside0.mk (next10 g1 c1 v HV.out.1 wr HF.out)
      rw [HV.out.2] at HN
      go_wp2_with (go_at_call 86; (with_reducible refine HN.out.mono ?_); rintro e w3 ⟨rfl, hb3⟩; have HF3 := Aside0.mk (show FrmRow w3 g1 from fun j hj => pw_cell_below hb3 (HF.out j hj)); have HB3 := Aside0.mk (HB.out.trans (hb3.mono HB.out.size)); clear hb3)
      go_roundg q'
      case measure => omega
      case rel => exact ⟨k + 1, _, by go_num, by omega, rfl, ⟨next63.2, next63.1⟩, HF3, HB3⟩
    · obtain rfl : k = 10 := by omega
      go_wp2
      exact bodyPost_ret (v := .tuple #[.string v, .int .i64 0]) (by simp [results, Tryz.results46, go_sem]) rfl ⟨v, rfl, HB.out⟩
def senL (k : Nat) : List Value := (List.range k).map fun j => .string (sen j)
theorem senL_succ (k : Nat) (hk : 1 ≤ k) : senL (k + 1) = senL k ++ [.string ⟨#[48]⟩] := by
  unfold senL
  rw [List.range_succ, List.map_append]
  simp only [List.map_cons, List.map_nil]
  rw [show sen k = ⟨#[48]⟩ from by unfold sen; rw [if_neg (by omega)]]
theorem own_down {w : World} {B B' e n : Nat} {v : Value} {xs : List Value} (h : w.ownsRow B e 1 v n xs) (hb : B' ≤ B) : w.ownsRow B' e 1 v n xs := by
  refine ⟨h.1, ?_⟩
  rcases h.2 with h2 | ⟨g, cap, cur, h1, h2, h3⟩
  · exact .inl h2
  · exact .inr ⟨g, cap, cur, h1, Nat.le_trans hb h2, h3⟩
set_option maxHeartbeats 4000000 in
set_option maxRecDepth 100000 in
theorem system10 (p : Nat) (S : Sh) (hS : S.sents = [.string ⟨#[33, 97]⟩]) (w : World) (h : ShopAt w p S) :
    Calls Tryz.prog 161 #[.pointer (some ⟨p, 0, none⟩)] w fun e w' => ∃ g c, e = .returned (.slice (some ⟨g, 0, none⟩) 10 c) ∧ SenRow w' g ∧ Below w.heap.size w w' := by
  obtain ⟨vs, va, vc, vm, vb, h0, h1, h2, h3, h4, h5⟩ := h.at_
  rw [hS] at h1
  have c32 : w.cell? ⟨p, 32, none⟩ = some vs := by rw [blk_cell h0]; cases S.b <;> rfl
  have HOwn := Aside0.mk (own_strings vs [.string ⟨#[33, 97]⟩] 1 (by decide) w h1)
  have info9 : (Tryz.prog.info? 9).map (fun i => (i.zero, i.size, i.bytes)) = some (some (.string ByteArray.empty), 1, 16) := by kernel_rfl
  obtain ⟨i0, hi0, hz0, hz1, hz2⟩ := info_parts info9
  obtain ⟨A, c, rfl, _⟩ := h1.slice
  clear h h0 h1 h2 h3 h4 h5 info9
  go_enter Tryz.func161, Tryz.ntmps161
  go_wp2_with (go_at_call 190; refine HOwn.out.mono ?_; rintro e w1 ⟨v1, rfl, ht, hb1⟩; obtain ⟨A1, rfl⟩ := ht.slice; have HT := Aside0.mk ht; have HB1 := Aside0.mk hb1; clear ht hb1)
  go_loopg [3] 9 (fun q v3 wr => ∃ (k : Nat) (A : Option Addr) (c : Nat), v3 = .slice A k c ∧ k + q = 10 ∧ 1 ≤ k ∧ Aside0 ((k = 1 ∧ A = A1 ∧ c = 1 ∧ wr = w1) ∨ (2 ≤ k ∧ wr.ownsRow w.heap.size 9 1 (.slice A k c) k (senL k))) ∧ Aside0 (Below w.heap.size w wr))
  case atStart => exact ⟨1, A1, 1, rfl, rfl, Nat.le_refl 1, ⟨.inl ⟨rfl, rfl, rfl, rfl⟩⟩, HB1⟩
  case round =>
    obtain ⟨k, A, c, rfl, hkq, hk1, HC, HB⟩ := hrel
    have hone : ∀ u ∈ [Value.string ⟨#[48]⟩], u.oneCell' = true := fun u hu => by rw [List.mem_singleton] at hu; subst hu; rfl
    by_cases hlt : k < 10
    · obtain ⟨q', rfl⟩ : ∃ q, gk = q + 1 := ⟨gk - 1, by omega⟩
      have hd : decide ((k : Int) < 10) = true := decide_eq_true (by omega)
      have HSL := Aside0.mk (senL_succ k hk1)
      rcases HC.out with ⟨h1, hA, hc, hw⟩ | ⟨h2, hown0⟩
      · subst h1
        subst hA
        subst hc
        subst hw
        have hnone : A = none → 1 = 0 ∧ 1 = 0 := by
          rcases HT.out.lies with ⟨_, h0⟩ | ⟨g, he, _⟩
          · omega
          · intro hA; rw [hA] at he; cases he
        have holds : ∀ a, A = some a → ∀ (j : Nat) u, [Value.string ⟨#[33, 97]⟩][j]? = some u → (wr.alloc (Obj.cells #[.string ⟨#[48]⟩] 9)).cell? (a.add j) = some u := by
          intro a ha j u hj
          rcases HT.out.lies with ⟨_, h0⟩ | ⟨g, he, _, _, hc⟩
          · omega
          · rw [ha] at he
            cases he
            rw [Addr.add_lit, Nat.zero_add]
            exact pw_cell_below (below_alloc (Below.refl _ _) _) (hc j u hj)
        go_wp2_with (at_builtin; refine wpList_append_grows _ rfl _ _ 61 rfl 9 i0 (.string ByteArray.empty) 1 16 Tryz.underlying61 hi0 hz0 hz1 hz2 rfl (by decide) A 1 1 [.string ⟨#[33, 97]⟩] rfl hnone rfl holds ⟨wr.heap.size, 0, none⟩ 1 1 [.string ⟨#[48]⟩] rfl rfl ?c1 hone (by decide) (by decide) (by decide) ?_)
        intro v' w2 hown hgrow
        obtain ⟨g, cap, rfl, _, _⟩ := hown.form (by decide)
        have hsz := HB.out.size
        have hzz := size_alloc wr (Obj.cells #[Value.string ⟨#[48]⟩] 9)
        have HO2 := Aside0.mk (own_down hown (show w.heap.size ≤ _ by omega))
        have HB2 := Aside0.mk (show Below w.heap.size w w2 from (HB.out.alloc HB.out.size (Obj.cells #[Value.string ⟨#[48]⟩] 9)).grown hgrow (by omega) (fun j hj => by cases hj))
        clear hown hgrow hzz holds hnone
        go_wp2
        go_roundg q'
        case measure => omega
        case rel => exact ⟨2, some ⟨g, 0, none⟩, cap, rfl, by omega, by decide, ⟨.inr ⟨Nat.le_refl 2, by rw [HSL.out]; exact HO2.out⟩⟩, HB2⟩
      · have HO := Aside0.mk hown0
        have H2 := Aside0.mk h2
        clear hown0 h2
        go_wp2_with (at_builtin; refine wpList_append_own _ rfl _ _ 61 rfl w.heap.size 9 i0 (.string ByteArray.empty) 1 16 Tryz.underlying61 hi0 hz0 hz1 hz2 rfl (by decide) (.slice A k c) k _ rfl (HO.out.alloc _) ⟨wr.heap.size, 0, none⟩ 1 1 [.string ⟨#[48]⟩] rfl rfl ?c1 hone ?c3 ?c4 ?c5 ?_)
        case c3 => simp only [maxLen]; omega
        case c4 => omega
        case c5 => have q := HB.out.size; simp only [size_alloc]; omega
        intro v' w2 hown hgrow hiff
        obtain ⟨g, cap, rfl, _, _⟩ := hown.form (by omega)
        have HO2 := Aside0.mk hown
        have HB2 := Aside0.mk (show Below w.heap.size w w2 from (HB.out.alloc HB.out.size (Obj.cells #[Value.string ⟨#[48]⟩] 9)).grown hgrow (by have q := HB.out.size; simp only [size_alloc]; omega) (fun j hj => own_base HO.out j hj))
        clear hgrow hown hiff
        go_wp2
        go_roundg q'
        case measure => omega
        case rel => exact ⟨k + 1, some ⟨g, 0, none⟩, cap, by go_num, by omega, by omega, ⟨.inr ⟨by have := H2.out; omega, by rw [HSL.out]; exact HO2.out⟩⟩, HB2⟩
    · obtain rfl : k = 10 := by omega
      rcases HC.out with ⟨h1, _⟩ | ⟨_, hown0⟩
      · omega
      · obtain ⟨g, cap, he, _, _⟩ := hown0.form (by decide)
        cases he
        have HO := Aside0.mk hown0
        clear hown0
        go_wp2
        go_ret
        refine ⟨g, c, rfl, fun j hj => ?_, HB.out⟩
        have := HO.out.cells rfl j (.string (sen j)) (by unfold senL; rw [List.getElem?_map, List.getElem?_range hj]; rfl)
        rwa [Addr.add_lit, Nat.zero_add] at this
end Go.Proofs.YtldohjlcckbfaaaGreatDoor.Hand
namespace Go.Proofs.YtldohjlcckbfaaaGreatDoor.Hand
open Go.RowKit Go.Proofs.YtldohjlcckbfaaaGreatDoorW.PrintWords Go.Proofs.YtldohjlcckbfaaaGreatDoorW.PrintLast Go.Proofs.YtldohjlcckbfaaaGreatDoorW.PrintMore
set_option linter.unusedVariables false
set_option linter.unusedSimpArgs false
open Go.Proofs.YtldohjlcckbfaaaGreatDoor.Pre
open TopWords
def Sh.said (S : Sh) : Sh := { S with sents := [.string ⟨#[33, 97]⟩] }
theorem ShopX.loose {ok : Nat → Prop} {w : World} {p : Nat} {S : Sh} (h : ShopX ok w p S) : ShopAt w p S := by
  obtain ⟨vs, va, vc, vm, vb, h0, h1, h2, h3, h4, h5⟩ := h.at_
  exact ⟨h.good, vs, va, vc, vm, vb, h0, h1.lies, h2.lies, h3.lies, h4.lies, h5.lies.loose⟩
set_option maxHeartbeats 4000000 in
set_option maxRecDepth 100000 in
theorem say_calls (q g2 c2 : Nat) (v0 v1 v3 : Value) (S : Sh) (hA : S.sents = []) (w : World) (hq : q < w.heap.size) (h0 : w.cell? ⟨g2, 0, none⟩ = some (.string ⟨#[33, 97]⟩)) (hs : ShopTX (· < q) w q S) :
    Calls Tryz.prog 113 #[.pointer (some ⟨q, 0, none⟩), .agg #[v0, v1, .slice (some ⟨g2, 0, none⟩) 1 c2, v3]] w fun e w' => e = .returned (.string ⟨#[97]⟩) ∧ ShopX (fun g => g < q ∨ w.heap.size ≤ g) w' q S.said ∧ Turn q w w' := by
  have HS := Aside0.mk hs
  have HQ := Aside0.mk hq
  have hA0 := heap_new w (Obj.cells #[v0, v1, .slice (some ⟨g2, 0, none⟩) 1 c2, v3] 129)
  have hb0 := below_alloc (Below.refl _ w) (Obj.cells #[v0, v1, .slice (some ⟨g2, 0, none⟩) 1 c2, v3] 129)
  have y0 := pw_cell_below hb0 h0
  have HB1 := Aside0.mk hb0
  have x0 : (w.alloc (Obj.cells #[v0, v1, .slice (some ⟨g2, 0, none⟩) 1 c2, v3] 129)).cell? ⟨w.heap.size, 2, none⟩ = some (.slice (some ⟨g2, 0, none⟩) 1 c2) := by rw [blk_cell hA0]; rfl
  obtain ⟨vs, va, vc, vm, vb, P2, t1, t2, t3, t4, t5⟩ := (HS.out.below HB1.out).at_
  rw [hA] at t1
  obtain rfl := TX.nilOf t1
  have HP2 := Aside0.mk P2
  have HT := Aside0.mk (And.intro t2 (And.intro t3 (And.intro t4 t5)))
  have z32 : (w.alloc (Obj.cells #[v0, v1, .slice (some ⟨g2, 0, none⟩) 1 c2, v3] 129)).cell? ⟨q, 32, none⟩ = some (.slice none 0 0) := by rw [blk_cell P2]; cases S.b <;> rfl
  clear hs h0 hq hA0 hb0 P2 t1 t2 t3 t4 t5
  go_enter Tryz.func113, Tryz.ntmps113
  go_wp2_with (go_at_call 153; refine (ensure_ok _ _).mono ?_; rintro e w6 ⟨rfl, hw⟩; rw [hw]; clear hw w6)
  obtain ⟨w2, e2⟩ : ∃ w2, (w.alloc (Obj.cells #[v0, v1, .slice (some ⟨g2, 0, none⟩) 1 c2, v3] 129)) = w2 := ⟨_, rfl⟩
  obtain ⟨b, hb⟩ : ∃ b, w.heap.size = b := ⟨_, rfl⟩
  rw [e2] at HB1 y0 x0 z32 HP2 HT ⊢
  rw [hb] at x0 ⊢
  have HZ := Aside0.mk hb
  clear e2 hb
  have info9 : (Tryz.prog.info? 9).map (fun i => (i.zero, i.size, i.bytes)) = some (some (.string ByteArray.empty), 1, 16) := by kernel_rfl
  obtain ⟨i0, hi0, hz0, hz1, hz2⟩ := info_parts info9
  have z32d : w2.drew.cell? ⟨q, 32, none⟩ = some (.slice none 0 0) := z32
  have y0d : w2.drew.cell? ⟨g2, 0, none⟩ = some (.string ⟨#[33, 97]⟩) := y0
  have x0d : w2.drew.cell? ⟨b, 2, none⟩ = some (.slice (some ⟨g2, 0, none⟩) 1 c2) := x0
  have hbA := below_drew (below_alloc (Below.refl _ w2) (Obj.cells #[Value.string ⟨#[33, 97]⟩] 9))
  have z32a := pw_cell_below hbA z32
  have HBA := Aside0.mk hbA
  have hnews : ∀ (j : Nat) u, [Value.string ⟨#[33, 97]⟩][j]? = some u → (w2.alloc (Obj.cells #[Value.string ⟨#[33, 97]⟩] 9)).drew.cell? ((⟨w2.heap.size, 0, none⟩ : Addr).add j) = some u := by
    intro j u hj
    rw [Addr.add_lit, Nat.zero_add]
    show (w2.alloc (Obj.cells #[Value.string ⟨#[33, 97]⟩] 9)).cell? ⟨w2.heap.size, j, none⟩ = some u
    rw [blk_cell (heap_new w2 _)]
    simpa using hj
  have hone : ∀ u ∈ [Value.string ⟨#[33, 97]⟩], u.oneCell' = true := fun u hu => by
    obtain rfl := List.mem_singleton.1 hu; rfl
  have hb1 : 0 + 1 ≤ maxLen := by decide
  have HONE := Aside0.mk hone
  clear hbA
  go_region_law ((refine step_append_grows rfl (.tmp 18) (.tmp 23) 61 rfl 9 i0 (.string ByteArray.empty) 1 16 Tryz.underlying61 hi0 hz0 hz1 hz2 rfl (by decide) none 0 0 [] (by simp [Act.eval, Act.put]) (fun _ => ⟨rfl, rfl⟩) rfl (fun _ h => by cases h) ⟨w2.heap.size, 0, none⟩ 1 1 [.string ⟨#[33, 97]⟩] (by simp [Act.eval, Act.put]) rfl hnews hone (by decide) hb1 (by decide) ?_; intro v' w6 hown hgrow; obtain ⟨g, cap, rfl, hg1, hg2⟩ := hown.form (by omega); have HO := Aside0.mk hown; have HB6 := Aside0.mk (show Below w2.heap.size w2 w6 from HBA.out.grown hgrow (by show w2.heap.size ≤ (w2.alloc (Obj.cells #[Value.string ⟨#[33, 97]⟩] 9)).heap.size; rw [size_alloc]; omega) (fun k hk => by cases hk)); have P6 := Aside0.mk (blk_below HP2.out HB6.out); have z32b := pw_cell_below HB6.out z32; have zf := blk_frozen P6.out 32; clear hown hgrow))
  all_goals
    have hz := HZ.out
    have hq := HQ.out
    have hsz2 := HB1.out.size
    have hsw : (w2.alloc (Obj.cells #[Value.string ⟨#[33, 97]⟩] 9)).drew.heap.size = w2.heap.size + 1 := size_alloc w2 _
    have hT : Turn q w (w6.setCell ⟨q, 32, none⟩ (.slice (some ⟨g, 0, none⟩) 1 cap)) := (Turn.of_below (p := q) (HB1.out.trans (HB6.out.mono hsz2))).set ⟨q, 32, none⟩ (.inl rfl) _
    have hP : (w6.setCell ⟨q, 32, none⟩ (.slice (some ⟨g, 0, none⟩) 1 cap)).heap[q]? = some (.cells (shopC S.b (.slice (some ⟨g, 0, none⟩) 1 cap) va vc vm vb) 64 (0, 0)) := by
      rw [heap_setCell_same _ _ _ _ _ _ P6.out]
      exact congrArg (fun c => some (Obj.cells c 64 (0, 0))) (shop_set32 S.b (.slice none 0 0) va vc vm vb _)
    have hL : LX (fun g => g < q ∨ w.heap.size ≤ g) (w6.setCell ⟨q, 32, none⟩ (.slice (some ⟨g, 0, none⟩) 1 cap)) 1 (.slice (some ⟨g, 0, none⟩) 1 cap) [.string ⟨#[33, 97]⟩] 1 := by
      refine (LX.of_own (by decide) HO.out (fun u hu => HONE.out u (by simpa using hu)) (by omega)).kept (fun k hk _ => Below.heap_setCell _ _ _ _ ?_)
      show k ≠ q
      omega
    have hT2 : Turn q w2 (w6.setCell ⟨q, 32, none⟩ (.slice (some ⟨g, 0, none⟩) 1 cap)) := (Turn.of_below (p := q) HB6.out).set ⟨q, 32, none⟩ (.inl rfl) _
    obtain ⟨t2, t3, t4, t5⟩ := HT.out
    have ho := HS.out.good
    have HF := Aside0.mk (show ShopX (fun g => g < q ∨ w.heap.size ≤ g) (w6.setCell ⟨q, 32, none⟩ (.slice (some ⟨g, 0, none⟩) 1 cap)) q S.said from ⟨⟨by show 1 ≤ 10; decide, ho.narcs, ho.coins, ho.coin, ho.amts, ho.book⟩, _, va, vc, vm, vb, hP, hL, kept_lt t2 hT2 (fun _ h => .inl h), kept_lt t3 hT2 (fun _ h => .inl h), kept_lt t4 hT2 (fun _ h => .inl h), kept_ltT t5 hT2 (fun _ h => .inl h)⟩)
    have HTT := Aside0.mk hT
    have d32 : (w6.setCell ⟨q, 32, none⟩ (.slice (some ⟨g, 0, none⟩) 1 cap)).cell? ⟨q, 32, none⟩ = some (.slice (some ⟨g, 0, none⟩) 1 cap) := by rw [blk_cell hP]; cases S.b <;> rfl
    clear hT hP hL hT2 t2 t3 t4 t5 ho z32 z32d z32a z32b zf y0 y0d x0 x0d hnews hone
    obtain ⟨w7, e7⟩ : ∃ w7, w6.setCell ⟨q, 32, none⟩ (.slice (some ⟨g, 0, none⟩) 1 cap) = w7 := ⟨_, rfl⟩
    rw [e7] at HF HTT d32 ⊢
    clear e7
    have HSy := Aside0.mk (system10 q S.said rfl w7 HF.out.loose)
    go_wp2_with (first | (go_at_call 161; refine HSy.out.mono ?_; rintro e w8 ⟨g8, c8, rfl, hr8, hb8⟩; have HB8 := Aside0.mk hb8; have HL8 := Aside0.mk (least10 g8 c8 w8 hr8); clear hr8 hb8) | (go_at_call 46; refine HL8.out.mono ?_; rintro e w9 ⟨v9, rfl, hb9⟩; have HB9 := Aside0.mk (HB8.out.trans (hb9.mono HB8.out.size)); have e32 := pw_cell_below HB9.out d32; clear hb9) | (go_at_call 154; refine (must_ok _).mono ?_; rintro e wm ⟨rfl, hw⟩; rw [hw]; clear hw wm))
    go_ret
    exact ⟨rfl, HF.out.below HB9.out, HTT.out.trans (Turn.of_below HB9.out)⟩
end Go.Proofs.YtldohjlcckbfaaaGreatDoor.Hand
namespace Go.Proofs.YtldohjlcckbfaaaGreatDoor.Hand
open Go.RowKit Go.Proofs.YtldohjlcckbfaaaGreatDoorW.PrintWords Go.Proofs.YtldohjlcckbfaaaGreatDoorW.PrintLast Go.Proofs.YtldohjlcckbfaaaGreatDoorW.PrintMore
set_option linter.unusedVariables false
set_option linter.unusedSimpArgs false
open Go.Proofs.YtldohjlcckbfaaaGreatDoor.Pre
open TopWords
theorem ann_trim : (⟨(Lib.trimS (ByteArray.mk #[97, 110, 110]).data.toList (ByteArray.mk #[97, 98, 99, 100, 101, 102, 103, 104, 105, 106, 107, 108, 109, 110, 111, 112, 113, 114, 115, 116, 117, 118, 119, 120, 121, 122]).data.toList).toArray⟩ : ByteArray) = ⟨#[]⟩ := by decide +kernel
set_option maxHeartbeats 4000000 in
set_option maxRecDepth 100000 in
theorem take_ann (B a : Nat) (N : List Int) (nm : List ByteArray) (line : ByteArray) (hN : nm.length ≤ 100) (w : World) (hB : B ≤ w.heap.size) (h : ArgsN w B a N nm line) :
    Calls Tryz.prog 69 #[.pointer (some ⟨a, 0, none⟩), .int .u8 110, .string ⟨#[97, 110, 110]⟩] w fun e w' => e = .returned (.bool true) ∧ ArgsN w' B a N (nm ++ [⟨#[97, 110, 110]⟩]) line ∧ Below B w w' := by
  obtain ⟨hge, v0, v1, ha, ho0, ho1⟩ := h
  have hal := blk_lt ha
  have info9 : (Tryz.prog.info? 9).map (fun i => (i.zero, i.size, i.bytes)) = some (some (.string ByteArray.empty), 1, 16) := by kernel_rfl
  obtain ⟨i0, hi0, hz0, hz1, hz2⟩ := info_parts info9
  have c0 : w.cell? ⟨a, 1, none⟩ = some v1 := by rw [blk_cell ha]; rfl
  have HA := Aside0.mk ha
  have HO0 := Aside0.mk ho0
  have HO1 := Aside0.mk ho1
  have HGE := Aside0.mk hge
  have HBH := Aside0.mk hB
  clear ha ho0 ho1 info9 hge hB
  go_enter Tryz.func69, Tryz.ntmps69
  go_wp2_with (at_builtin; refine wpList_append_own _ rfl _ _ 61 rfl B 9 i0 (.string ByteArray.empty) 1 16 Tryz.underlying61 hi0 hz0 hz1 hz2 rfl (by decide) v1 _ _ rfl (HO1.out.alloc _) ⟨w.heap.size, 0, none⟩ 1 1 [.string ⟨#[97, 110, 110]⟩] rfl rfl ?c1 ?c2 ?c3 ?c4 ?c5 ?_)
  case c1 => intro j u hj; rw [Addr.add_lit, Nat.zero_add, blk_cell (heap_new w _)]; simpa using hj
  case c2 => intro u hu; rw [List.mem_singleton] at hu; subst hu; rfl
  case c3 => simp only [maxLen]; omega
  case c4 => omega
  case c5 => have q2 := HBH.out; simp only [size_alloc]; omega
  intro v' w2 hown hgrow hiff
  obtain ⟨g, cap, rfl, _, _⟩ := hown.form (by omega)
  have A1a := blk_alloc HA.out (Obj.cells #[Value.string ⟨#[97, 110, 110]⟩] 9)
  have A2 := Aside0.mk (show w2.heap[a]? = some (.cells #[v0, v1, .slice none 0 0, .string line] 129 (0, 0)) from (hgrow.block a (blk_lt A1a) (own_not (by decide) HO1.out HA.out)).trans A1a)
  have P2 := Aside0.mk ((HO0.out.alloc (Obj.cells #[Value.string ⟨#[97, 110, 110]⟩] 9)).kept hgrow (own_apart (by decide) HO0.out HO1.out))
  have HO := Aside0.mk hown
  have HB2 := Aside0.mk (show Below B w w2 from ((Below.refl B w).alloc HBH.out (Obj.cells #[Value.string ⟨#[97, 110, 110]⟩] 9)).grown hgrow (by have q2 := HBH.out; simp only [size_alloc]; omega) (fun k hk => by
    rcases HO1.out.2 with ⟨e, _⟩ | ⟨g, cap, cur, e, hbg, _⟩
    · rw [e] at hk; simp [Value.ownBlock] at hk
    · rw [e] at hk; simp only [Value.ownBlock, Option.some.injEq] at hk; omega))
  have q2 := blk_frozen A2.out 1
  have q3 : w2.cell? ⟨a, 1, none⟩ = some v1 := by rw [blk_cell A2.out]; rfl
  clear hgrow hown hiff A1a c0
  have HF := Aside0.mk (show ArgsN (w2.setCell ⟨a, 1, none⟩ (.slice (some ⟨g, 0, none⟩) (nm.length + 1) cap)) B a N (nm ++ [⟨#[97, 110, 110]⟩]) line from by
    refine ⟨HGE.out, v0, .slice (some ⟨g, 0, none⟩) (nm.length + 1) cap, ?_, ?_, ?_⟩
    · rw [heap_setCell_same _ _ _ _ _ _ A2.out]; rfl
    · exact ownsRow_setCell_other P2.out (fun e => own_not (by decide) P2.out A2.out e.symm) _
    · rw [List.map_append, List.length_append]
      exact ownsRow_setCell_other HO.out (fun e => own_not (by decide) HO.out A2.out e.symm) _)
  have HBF := Aside0.mk (HB2.out.setCell (p := ⟨a, 1, none⟩) HGE.out (.slice (some ⟨g, 0, none⟩) (nm.length + 1) cap))
  go_wp2_with (go_at_call 56; refine (Any.strings_Trim_laid Tryz.lays160 (by kernel_rfl) ⟨#[97, 110, 110]⟩ _ _ (by decide) (by decide) (ascii_of_all (by decide))).mono ?_; rintro e w3 ⟨rfl, hb⟩; rw [ann_trim]; have HB3 := Aside0.mk hb; clear hb)
  go_ret
  exact ⟨rfl, HF.out.below HB3.out, HBF.out.trans (HB3.out.mono (Nat.le_trans HBH.out HBF.out.size))⟩
end Go.Proofs.YtldohjlcckbfaaaGreatDoor.Hand
namespace Go.Proofs.YtldohjlcckbfaaaGreatDoor.Hand
open Go.RowKit Go.Proofs.YtldohjlcckbfaaaGreatDoorW.PrintWords Go.Proofs.YtldohjlcckbfaaaGreatDoorW.PrintLast Go.Proofs.YtldohjlcckbfaaaGreatDoorW.PrintMore
set_option linter.unusedVariables false
set_option linter.unusedSimpArgs false
open Go.Proofs.YtldohjlcckbfaaaGreatDoor.Pre
open TopWords
theorem verb_sit : VerbIs 0 ⟨#[115, 105, 116]⟩ ⟨#[110, 105]⟩ 0 0 0 true 107 :=
  { row := by kernel_rfl, find := fun m => by kernel_rfl, word := by unfold wordB; decide, noif := by kernel_rfl, size := by decide, least := by decide, most := by decide, lt := by decide }
theorem verb_pay : VerbIs 4 ⟨#[112, 97, 121]⟩ ⟨#[105, 105]⟩ 0 0 0 true 111 :=
  { row := by kernel_rfl, find := fun m => by kernel_rfl, word := by unfold wordB; decide, noif := by kernel_rfl, size := by decide, least := by decide, most := by decide, lt := by decide }
theorem verb_say : VerbIs 6 ⟨#[115, 97, 121]⟩ ⟨#[119]⟩ 0 0 0 true 113 :=
  { row := by kernel_rfl, find := fun m => by kernel_rfl, word := by unfold wordB; decide, noif := by kernel_rfl, size := by decide, least := by decide, most := by decide, lt := by decide }
theorem verb_arc : VerbIs 7 ⟨#[97, 114, 99]⟩ ⟨#[105, 105]⟩ 0 0 0 true 114 :=
  { row := by kernel_rfl, find := fun m => by kernel_rfl, word := by unfold wordB; decide, noif := by kernel_rfl, size := by decide, least := by decide, most := by decide, lt := by decide }
theorem verb_till : VerbIs 11 ⟨#[116, 105, 108, 108]⟩ ⟨#[]⟩ 0 0 0 false 118 :=
  { row := by kernel_rfl, find := fun m => by kernel_rfl, word := by unfold wordB; decide, noif := by kernel_rfl, size := by decide, least := by decide, most := by decide, lt := by decide }
theorem verb_liar : VerbIs 13 ⟨#[108, 105, 97, 114]⟩ ⟨#[]⟩ 0 0 0 false 120 :=
  { row := by kernel_rfl, find := fun m => by kernel_rfl, word := by unfold wordB; decide, noif := by kernel_rfl, size := by decide, least := by decide, most := by decide, lt := by decide }
theorem verb_shave : VerbIs 14 ⟨#[115, 104, 97, 118, 101]⟩ ⟨#[]⟩ 0 0 0 false 121 :=
  { row := by kernel_rfl, find := fun m => by kernel_rfl, word := by unfold wordB; decide, noif := by kernel_rfl, size := by decide, least := by decide, most := by decide, lt := by decide }
def lSit : ByteArray := lineOf [⟨#[115, 105, 116]⟩, ⟨#[97, 110, 110]⟩, ⟨#[51]⟩]
def lPay : ByteArray := lineOf [⟨#[112, 97, 121]⟩, ⟨#[52]⟩, ⟨#[52]⟩]
def lSay : ByteArray := lineOf [⟨#[115, 97, 121]⟩, ⟨#[33, 97]⟩]
def lArc : ByteArray := lineOf [⟨#[97, 114, 99]⟩, ⟨#[48]⟩, ⟨#[48]⟩]
theorem lSit_is : lSit = ⟨#[115, 105, 116, 32, 97, 110, 110, 32, 51]⟩ := by decide +kernel
def shA : Sh := sh1.add lSit
def shB : Sh := (shA.paid 4).add lPay
def shC : Sh := shB.said.add lSay
def shD : Sh := shC.arced.add lArc
theorem noE_nil : noE [] := by simp [noE]
theorem noE_int (x : Int) (l : List Value) : noE (.int .i64 x :: l) := by simp [noE]
theorem noE_str (b : UInt8) (l : List UInt8) (t : List Value) (s : ByteArray) (h : s = ⟨(b :: l).toArray⟩) : noE (.string s :: t) := by
  intro h2
  simp only [List.getElem?_cons_zero, Option.some.injEq, Value.string.injEq] at h2
  rw [h] at h2
  have := congrArg (fun x : ByteArray => x.data.size) h2
  simp at this
theorem shA_first : shA.First := ⟨noE_nil, noE_nil, noE_int _ _, noE_nil, noE_str _ _ _ _ lSit_is⟩
theorem shB_first : shB.First := ⟨noE_nil, noE_nil, noE_int _ _, noE_int _ _, noE_str _ _ _ _ lSit_is⟩
theorem shC_first : shC.First := ⟨noE_str _ _ _ _ rfl, noE_nil, noE_int _ _, noE_int _ _, noE_str _ _ _ _ lSit_is⟩
theorem shD_first : shD.First := ⟨noE_str _ _ _ _ rfl, noE_int _ _, noE_int _ _, noE_int _ _, noE_str _ _ _ _ lSit_is⟩
theorem word_ann : wordB ⟨#[97, 110, 110]⟩ := by unfold wordB; decide
theorem word_three : wordB ⟨#[51]⟩ := by unfold wordB; decide
theorem word_four : wordB ⟨#[52]⟩ := by unfold wordB; decide
theorem word_zero : wordB ⟨#[48]⟩ := by unfold wordB; decide
theorem word_nota : wordB ⟨#[33, 97]⟩ := by unfold wordB; decide
theorem itoa3 : ⟨#[51]⟩ = itoaB 3 := by decide +kernel
theorem itoa0 : ⟨#[48]⟩ = itoaB 0 := by decide +kernel
theorem itoa4 : ⟨#[52]⟩ = itoaB 4 := by decide +kernel
set_option maxHeartbeats 2000000 in
set_option maxRecDepth 100000 in
theorem exec_sit (w : World) (hG : Glob w) (p : Nat) (hs : ShopAt w p sh0) :
    Calls Tryz.prog 14 #[.pointer (some ⟨p, 0, none⟩), .string lSit] w fun e w' => e = .returned (.string ⟨#[51]⟩) ∧ ShopAt w' p shA ∧ Turn p w w' := by
  have hps : ∀ y ∈ [(⟨#[97, 110, 110]⟩ : ByteArray), ⟨#[51]⟩], wordB y := fun y hy => by
    rcases List.mem_cons.1 hy with rfl | hy
    · exact word_ann
    · rw [List.mem_singleton] at hy; subst hy; exact word_three
  refine exec_ch verb_sit [⟨#[97, 110, 110]⟩, ⟨#[51]⟩] hps (by decide +kernel) (by decide) (by decide) (by decide) (fun a k W => ArgsN W a a (if 2 ≤ k then [3] else []) (if 1 ≤ k then [⟨#[97, 110, 110]⟩] else []) lSit) w hG p sh0 sh1 (by decide) shA_first hs _ (enters_of Tryz.func107 (by kernel_rfl) rfl) ?_ ?_ ?_ ?_ ?_
  · intro a W ha _
    exact ⟨Nat.le_refl _, _, _, ha, own_nil _ _ _ _, own_nil _ _ _ _⟩
  · intro a k W hk hal hb hA
    have hk2 : k < 2 := hk
    obtain rfl | rfl : k = 0 ∨ k = 1 := by omega
    · refine (take_ann a a [] [] lSit (by decide) W (by omega) hA).mono ?_
      rintro e W' ⟨rfl, h1, h2⟩
      exact ⟨rfl, h1, h2⟩
    · show Calls _ _ #[_, _, .string ⟨#[51]⟩] W _
      rw [itoa3]
      refine (take_i a a [] [⟨#[97, 110, 110]⟩] lSit (by decide) 3 (by decide) (by decide) W (hG.below hb) (by omega) hA).mono ?_
      rintro e W' ⟨rfl, h1, h2⟩
      exact ⟨rfl, h1, h2⟩
  · intro a W h
    obtain ⟨_, v0, v1, h, _⟩ := h
    exact ⟨v0, v1, _, h⟩
  · intro a k W W' h hb
    exact h.below hb
  · intro W q a v0 v1 v2 hb hq1 hq2 hsq hA ha
    have hA2 : ArgsN W a a [3] [⟨#[97, 110, 110]⟩] lSit := hA
    obtain ⟨_, u0, u1, h, ho0, ho1⟩ := hA2
    rw [h] at ha
    simp only [argsA, Option.some.injEq, Obj.cells.injEq, Array.mk.injEq, List.cons.injEq, and_true, true_and] at ha
    obtain ⟨rfl, rfl, rfl, _⟩ := ha
    obtain ⟨g0, c0, rfl, _, _⟩ := ho0.form (by decide)
    obtain ⟨g1, c1, rfl, _, _⟩ := ho1.form (by decide)
    have x0 := ho0.cells rfl 0 (.int .i64 3) rfl
    have x1 := ho1.cells rfl 0 (.string ⟨#[97, 110, 110]⟩) rfl
    rw [Addr.add_lit, Nat.zero_add] at x0 x1
    exact sit_calls q g0 c0 g1 c1 _ _ w W hG hb hq1 hq2 x0 x1 hsq
set_option maxHeartbeats 2000000 in
set_option maxRecDepth 100000 in
theorem exec_till (w : World) (hG : Glob w) (p : Nat) (S : Sh) (hA : S.amts = [.int .i64 4]) (hs : ShopAt w p S) :
    Calls Tryz.prog 14 #[.pointer (some ⟨p, 0, none⟩), .string ⟨#[116, 105, 108, 108]⟩] w fun e w' => e = .returned (.string ⟨#[49, 32, 49, 32, 49]⟩) ∧ Below w.heap.size w w' := by
  have hl : lineOf [(⟨#[116, 105, 108, 108]⟩ : ByteArray)] = ⟨#[116, 105, 108, 108]⟩ := lineOf_one _
  have := exec_look verb_till [] (fun y hy => absurd hy (by simp)) (by decide +kernel) (by decide) (by decide) (by decide) (fun a k W => W.heap[a]? = some (argsA a (.slice none 0 0) (.slice none 0 0) (.slice none 0 0) (lineOf [⟨#[116, 105, 108, 108]⟩]))) w hG p S hs ⟨#[49, 32, 49, 32, 49]⟩ (enters_of Tryz.func118 (by kernel_rfl) rfl)
    (fun a W ha _ => ha) (fun a k W hk => absurd hk (Nat.not_lt_zero k)) (fun a W h => ⟨_, _, _, h⟩) (fun a k W W' h hb => blk_below h hb)
    (fun W q a v0 v1 v2 hb hq _ _ => till_F q S hA v0 v1 v2 _ W (hG.below hb) hq)
  rw [hl] at this
  exact this
set_option maxHeartbeats 2000000 in
set_option maxRecDepth 100000 in
theorem exec_say (w : World) (hG : Glob w) (p : Nat) (hs : ShopAt w p shB) :
    Calls Tryz.prog 14 #[.pointer (some ⟨p, 0, none⟩), .string lSay] w fun e w' => e = .returned (.string ⟨#[97]⟩) ∧ ShopAt w' p shC ∧ Turn p w w' := by
  have hps : ∀ y ∈ [(⟨#[33, 97]⟩ : ByteArray)], wordB y := fun y hy => by
    rw [List.mem_singleton] at hy; subst hy; exact word_nota
  refine exec_ch verb_say [⟨#[33, 97]⟩] hps (by decide +kernel) (by decide) (by decide) (by decide) (fun a k W => ArgsW W a a (List.take k [⟨#[33, 97]⟩]) lSay) w hG p shB shB.said (by decide) shC_first hs _ (enters_of Tryz.func113 (by kernel_rfl) rfl) ?_ ?_ ?_ ?_ ?_
  · intro a W ha _
    exact ⟨Nat.le_refl _, _, ha, own_nil _ _ _ _⟩
  · intro a k W hk hal hb hA
    have hk2 : k < 1 := hk
    obtain rfl : k = 0 := by omega
    refine (take_w a a [] lSay (by decide) ⟨#[33, 97]⟩ W (by omega) hA).mono ?_
    rintro e W' ⟨rfl, h1, h2⟩
    exact ⟨rfl, h1, h2⟩
  · intro a W h
    obtain ⟨_, v2, h, _⟩ := h
    exact ⟨_, _, v2, h⟩
  · intro a k W W' h hb
    exact h.below hb
  · intro W q a v0 v1 v2 hb hq1 hq2 hsq hA ha
    have hA2 : ArgsW W a a [⟨#[33, 97]⟩] lSay := hA
    obtain ⟨_, u2, h, ho⟩ := hA2
    rw [h] at ha
    simp only [argsA, Option.some.injEq, Obj.cells.injEq, Array.mk.injEq, List.cons.injEq, and_true, true_and] at ha
    obtain ⟨rfl, rfl, rfl, _⟩ := ha
    obtain ⟨g, c, rfl, _, _⟩ := ho.form (by decide)
    have x0 := ho.cells rfl 0 (.string ⟨#[33, 97]⟩) rfl
    rw [Addr.add_lit, Nat.zero_add] at x0
    exact say_calls q g c _ _ _ shB rfl W hq2 x0 hsq
set_option maxHeartbeats 2000000 in
set_option maxRecDepth 100000 in
theorem exec_arc (w : World) (hG : Glob w) (p : Nat) (hs : ShopAt w p shC) :
    Calls Tryz.prog 14 #[.pointer (some ⟨p, 0, none⟩), .string lArc] w fun e w' => e = .returned (.string ⟨#[111, 107]⟩) ∧ ShopAt w' p shD ∧ Turn p w w' := by
  have hps : ∀ y ∈ [(⟨#[48]⟩ : ByteArray), ⟨#[48]⟩], wordB y := fun y hy => by
    rcases List.mem_cons.1 hy with rfl | hy
    · exact word_zero
    · rw [List.mem_singleton] at hy; subst hy; exact word_zero
  refine exec_ch verb_arc [⟨#[48]⟩, ⟨#[48]⟩] hps (by decide +kernel) (by decide) (by decide) (by decide) (fun a k W => ArgsN W a a (List.take k [0, 0]) [] lArc) w hG p shC shC.arced (by decide) shD_first hs _ (enters_of Tryz.func114 (by kernel_rfl) rfl) ?_ ?_ ?_ ?_ ?_
  · intro a W ha _
    exact ⟨Nat.le_refl _, _, _, ha, own_nil _ _ _ _, own_nil _ _ _ _⟩
  · intro a k W hk hal hb hA
    have hk2 : k < 2 := hk
    obtain rfl | rfl : k = 0 ∨ k = 1 := by omega
    · show Calls _ _ #[_, _, .string ⟨#[48]⟩] W _
      rw [itoa0]
      refine (take_i a a [] [] lArc (by decide) 0 (by decide) (by decide) W (hG.below hb) (by omega) hA).mono ?_
      rintro e W' ⟨rfl, h1, h2⟩
      exact ⟨rfl, h1, h2⟩
    · show Calls _ _ #[_, _, .string ⟨#[48]⟩] W _
      rw [itoa0]
      refine (take_i a a [0] [] lArc (by decide) 0 (by decide) (by decide) W (hG.below hb) (by omega) hA).mono ?_
      rintro e W' ⟨rfl, h1, h2⟩
      exact ⟨rfl, h1, h2⟩
  · intro a W h
    obtain ⟨_, v0, v1, h, _⟩ := h
    exact ⟨v0, v1, _, h⟩
  · intro a k W W' h hb
    exact h.below hb
  · intro W q a v0 v1 v2 hb hq1 hq2 hsq hA ha
    have hA2 : ArgsN W a a [0, 0] [] lArc := hA
    obtain ⟨_, u0, u1, h, ho0, ho1⟩ := hA2
    rw [h] at ha
    simp only [argsA, Option.some.injEq, Obj.cells.injEq, Array.mk.injEq, List.cons.injEq, and_true, true_and] at ha
    obtain ⟨rfl, rfl, rfl, _⟩ := ha
    obtain ⟨g0, c0, rfl, _, _⟩ := ho0.form (by decide)
    have x0 := ho0.cells rfl 0 (.int .i64 0) rfl
    have x1 := ho0.cells rfl 1 (.int .i64 0) rfl
    rw [Addr.add_lit, Nat.zero_add] at x0 x1
    exact arc_calls q g0 c0 _ _ _ shC rfl rfl W hq2 x0 x1 hsq
end Go.Proofs.YtldohjlcckbfaaaGreatDoor.Hand
