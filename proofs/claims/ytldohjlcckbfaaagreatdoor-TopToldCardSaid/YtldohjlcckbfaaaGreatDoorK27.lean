/- A part of the proof that pomadetop.TopTold returns true for every input: HandTo. No condition beyond those that each theorem states. -/
import Derived.Test.YtldohjlcckbfaaaGreatDoorK26
namespace Go.Proofs.YtldohjlcckbfaaaGreatDoor.Hand
open Go.RowKit Go.Proofs.YtldohjlcckbfaaaGreatDoorW.PrintWords Go.Proofs.YtldohjlcckbfaaaGreatDoorW.PrintLast Go.Proofs.YtldohjlcckbfaaaGreatDoorW.PrintMore
set_option linter.unusedVariables false
set_option linter.unusedSimpArgs false
open Go.Proofs.YtldohjlcckbfaaaGreatDoor.Pre
theorem IntRow.tailC {W : World} {g : Nat} {n : Int} {l : List Int} (h : IntRow W g (n :: l)) (hl : l.length ≤ 1000) : Kd.C (Kd.int .i64) W (some ⟨g, 1, none⟩) l.length l := by
  refine Kd.C_of_reads (enc := Value.int .i64) (d := (0 : Int)) ⟨rfl, by omega, fun _ => ⟨⟨g, 1, none⟩, rfl, fun j hj => ?_⟩⟩
  have := h (j + 1) l[j] (by rw [List.getElem?_cons_succ, List.getElem?_eq_getElem hj])
  rw [show ((⟨g, 1, none⟩ : Addr).add j) = ⟨g, j + 1, none⟩ by simp [Addr.add, Nat.add_comm]]
  rw [this]
  simp [List.getD_eq_getElem?_getD, List.getElem?_eq_getElem hj]
set_option maxHeartbeats 4000000 in
set_option maxRecDepth 100000 in
theorem roads_ok (q g c : Nat) (u l : ByteArray) (r : Int) (hr0 : 0 ≤ r) (hr1 : r ≤ 24) (v0 v1 v3 : Value) (w : World) (hx : StrRow w g [u, l]) (hG : Glob w)
    (hR : ∀ W, Calls Tryz.prog 15 #[.string u, .string l] W fun e W' => e = .returned (.tuple #[.int .i64 r, .int .i64 0]) ∧ Below W.heap.size W W') :
    Calls Tryz.prog 124 #[.pointer (some ⟨q, 0, none⟩), .agg #[v0, v1, .slice (some ⟨g, 0, none⟩) 2 c, v3]] w fun e w' => e = .returned (.string (itoaB r)) ∧ Below w.heap.size w w' := by
  have HR := Aside0.mk hR
  have HGL := Aside0.mk hG
  have HA := heap_new w (Obj.cells #[v0, v1, .slice (some ⟨g, 0, none⟩) 2 c, v3] 129)
  have hb0 := below_alloc (Below.refl _ w) (Obj.cells #[v0, v1, .slice (some ⟨g, 0, none⟩) 2 c, v3] 129)
  have hx0 := pw_cell_below hb0 (hx 0 u rfl)
  have hx1 := pw_cell_below hb0 (hx 1 l rfl)
  
  clear hR hG hx
  go_enter Tryz.func124, Tryz.ntmps124
  go_wp2
  obtain ⟨b, hb⟩ : ∃ b, w.heap.size = b := ⟨_, rfl⟩
  have HZ := Aside0.mk hb
  obtain ⟨w1, e1⟩ : ∃ w1, w.alloc (Obj.cells #[v0, v1, .slice (some ⟨g, 0, none⟩) 2 c, v3] 129) = w1 := ⟨_, rfl⟩
  rw [e1] at HA hb0 hx0 hx1 ⊢
  rw [hb] at HA ⊢
  have HB1 := Aside0.mk (below_drew hb0)
  clear hb hb0 e1
  have y2 : w1.drew.cell? ⟨b, 2, none⟩ = some (.slice (some ⟨g, 0, none⟩) 2 c) := by show w1.cell? _ = _; rw [blk_cell HA]; rfl
  have y0 : w1.drew.cell? ⟨g, 0, none⟩ = some (.string u) := hx0
  have y1 : w1.drew.cell? ⟨g, 1, none⟩ = some (.string l) := hx1
  clear HA hx0 hx1
  go_region_held3 (fun w' => w'.cell? ⟨b, 2, none⟩ = some (.slice (some ⟨g, 0, none⟩) 2 c) ∧ w'.cell? ⟨g, 0, none⟩ = some (.string u) ∧ w'.cell? ⟨g, 1, none⟩ = some (.string l)) (first | (exact ⟨y2, y0, y1⟩) | (exact ⟨z2, z0, z1⟩)) (((with_reducible refine (HR.out _).mono ?_); rintro e w2 ⟨rfl, hb2⟩; have HB2 := Aside0.mk (HB1.out.trans (hb2.mono HB1.out.size)); have z2 := pw_cell_below hb2 y2; have z0 := pw_cell_below hb2 y0; have z1 := pw_cell_below hb2 y1; clear hb2))
  have HI := Aside0.mk (itoa_calls r (by omega) (by omega) w2 (HGL.out.below HB2.out))
  go_wp2_with (first | (go_at_call 154; refine (must_ok _).mono ?_; rintro e w3 ⟨rfl, rfl⟩) | (go_at_call 71; refine HI.out.mono ?_; rintro e w4 ⟨rfl, hb4⟩; have HB4 := Aside0.mk (HB2.out.trans (hb4.mono HB2.out.size)); clear hb4))
  go_ret
  exact ⟨rfl, HB4.out⟩
set_option maxHeartbeats 4000000 in
set_option maxRecDepth 100000 in
theorem plait_ok (q g c : Nat) (n : Int) (l : List Int) (hl0' : 0 < l.length) (hl : l.length ≤ 200) (hc : l.length + 1 ≤ c) (D : List Int) (lp : Int) (v1 v2 v3 : Value) (w : World) (hx : IntRow w g (n :: l)) (hG : Glob w)
    (hH : ∀ W A c', Kd.C (Kd.int .i64) W A l.length l → Calls Tryz.prog 17 #[.int .i64 n, .slice A l.length c'] W fun e W' => ∃ A' c2, e = .returned (.tuple #[.slice A' D.length c2, .int .i64 lp, .int .i64 0]) ∧ ReadsInt W' .i64 A' D.length D ∧ (D.length ≤ 20 ∧ (∀ x ∈ D, 0 ≤ x ∧ x ≤ 20) ∧ 0 ≤ lp ∧ lp ≤ 1000000) ∧ Below W.heap.size W W') :
    Calls Tryz.prog 123 #[.pointer (some ⟨q, 0, none⟩), .agg #[.slice (some ⟨g, 0, none⟩) (l.length + 1) c, v1, v2, v3]] w fun e w' => e = .returned (.string (lineOf (D.map itoaB) ++ ⟨#[32, 47, 32]⟩ ++ itoaB lp)) ∧ Below w.heap.size w w' := by
  have HH := Aside0.mk hH
  have HGL := Aside0.mk hG
  have HX := Aside0.mk hx
  have HLL := Aside0.mk hl
  have HA := heap_new w (Obj.cells #[.slice (some ⟨g, 0, none⟩) (l.length + 1) c, v1, v2, v3] 129)
  have hb0 := below_alloc (Below.refl _ w) (Obj.cells #[.slice (some ⟨g, 0, none⟩) (l.length + 1) c, v1, v2, v3] 129)
  have hx0 := pw_cell_below hb0 (hx 0 n rfl)
  have hp3 : ¬ (l.length + 1 ≤ 1) := by omega
  have hp4 : ¬ (l.length + 1 = 1) := by omega
  have hp5 : l.length + 1 - 1 = l.length := by omega
  have hp6 : ¬ c = 1 := by omega
  have hp7 : ¬ c ≤ 1 := by omega
  have hp8 : (1 : Int) ≤ (l.length : Int) + 1 := by omega
  have hp9 : (l.length : Int) + 1 ≤ (c : Int) := by omega
  have hp10 : (0 : Int) ≤ (l.length : Int) := by omega
  have hp11 : (1 : Int) ≤ (c : Int) := by omega
  
  clear hH hG hx
  go_enter Tryz.func123, Tryz.ntmps123
  go_wp2
  obtain ⟨b, hb⟩ : ∃ b, w.heap.size = b := ⟨_, rfl⟩
  have HZ := Aside0.mk hb
  obtain ⟨w1, e1⟩ : ∃ w1, w.alloc (Obj.cells #[.slice (some ⟨g, 0, none⟩) (l.length + 1) c, v1, v2, v3] 129) = w1 := ⟨_, rfl⟩
  rw [e1] at HA hb0 hx0 ⊢
  rw [hb] at HA ⊢
  have HB1 := Aside0.mk (below_drew hb0)
  clear hb hb0 e1
  have y2 : w1.drew.cell? ⟨b, 0, none⟩ = some (.slice (some ⟨g, 0, none⟩) (l.length + 1) c) := by show w1.cell? _ = _; rw [blk_cell HA]; rfl
  have y0 : w1.drew.cell? ⟨g, 0, none⟩ = some (.int .i64 n) := hx0
  have HC := Aside0.mk (Kd.C_below (IntRow.tailC HX.out (by omega)) HB1.out)
  clear HA hx0
  go_region_held3 (fun w' => w'.cell? ⟨b, 0, none⟩ = some (.slice (some ⟨g, 0, none⟩) (l.length + 1) c) ∧ w'.cell? ⟨g, 0, none⟩ = some (.int .i64 n)) (first | (exact ⟨y2, y0⟩) | (exact ⟨z2, z0⟩)) (((with_reducible refine (HH.out _ _ _ HC.out).mono ?_); rintro e w2 ⟨A', c2, rfl, hrd, hfa, hb2⟩; have HRD := Aside0.mk hrd; have HFA := Aside0.mk hfa; clear hfa; have HB2 := Aside0.mk (HB1.out.trans (hb2.mono HB1.out.size)); have z2 := pw_cell_below hb2 y2; have z0 := pw_cell_below hb2 y0; clear hb2))
  obtain ⟨hD, hDb0, hl0, hl1⟩ := HFA.out
  have hDb : ∀ x ∈ D, -9223372036854775808 ≤ x ∧ x ≤ 9223372036854775807 := fun x hx => by have := hDb0 x hx; omega
  have HJ := Aside0.mk (joined_calls A' c2 D (by omega) hDb w2 (HGL.out.below HB2.out) HRD.out)
  have hDl := line_len D (by omega) hDb
  have hadd1 : ∀ (W : World), (Op.stringOp .add (lineOf (D.map itoaB)) ⟨#[32, 47, 32]⟩).run Tryz.prog W = .ok (.string (lineOf (D.map itoaB) ++ ⟨#[32, 47, 32]⟩)) W := fun W => run_string_add_sum W _ _ (by
    have : (lineOf (D.map itoaB)).size ≤ 22000 := by show (Lib.join _ _).toArray.size ≤ _; rw [List.size_toArray]; exact hDl
    have h2 : (ByteArray.mk #[32, 47, 32]).size = 3 := rfl
    omega)
  have hadd2 : ∀ (W : World), (Op.stringOp .add (lineOf (D.map itoaB) ++ ⟨#[32, 47, 32]⟩) (itoaB lp)).run Tryz.prog W = .ok (.string (lineOf (D.map itoaB) ++ ⟨#[32, 47, 32]⟩ ++ itoaB lp)) W := fun W => run_string_add_sum W _ _ (by
    have : (lineOf (D.map itoaB)).size ≤ 22000 := by show (Lib.join _ _).toArray.size ≤ _; rw [List.size_toArray]; exact hDl
    have h2 : (ByteArray.mk #[32, 47, 32]).size = 3 := rfl
    have h3 := itoaB_size lp (by omega) (by omega)
    rw [ByteArray.size_append]
    omega)
  obtain ⟨s, hs⟩ : ∃ s, lineOf (D.map itoaB) = s := ⟨_, rfl⟩
  rw [hs] at HJ hadd1 hadd2
  have HS := Aside0.mk hs
  clear hDl hs hDb hDb0
  go_wp2_with (first | (go_at_call 154; refine (must_ok _).mono ?_; rintro e w3 ⟨rfl, rfl⟩) | (go_at_call 159; refine HJ.out.mono ?_; rintro e w4 ⟨rfl, hb4⟩; have HB4 := Aside0.mk (HB2.out.trans (hb4.mono HB2.out.size)); have HI := Aside0.mk (itoa_calls lp (by omega) (by omega) w4 (HGL.out.below HB4.out)); clear hb4) | (go_at_call 71; refine HI.out.mono ?_; rintro e w5 ⟨rfl, hb5⟩; have HB5 := Aside0.mk (HB4.out.trans (hb5.mono HB4.out.size)); clear hb5))
  go_ret
  exact ⟨by simp [HS.out], HB5.out⟩
set_option maxHeartbeats 4000000 in
set_option maxRecDepth 100000 in
theorem roads_no (q g c : Nat) (u l : ByteArray) (r : Int) (k : Int) (hk : k ≠ 0) (v0 v1 v3 : Value) (w : World) (hx : StrRow w g [u, l]) (hG : Glob w)
    (hR : ∀ W, Calls Tryz.prog 15 #[.string u, .string l] W fun e W' => e = .returned (.tuple #[.int .i64 r, .int .i64 k]) ∧ Below W.heap.size W W') :
    Calls Tryz.prog 124 #[.pointer (some ⟨q, 0, none⟩), .agg #[v0, v1, .slice (some ⟨g, 0, none⟩) 2 c, v3]] w fun e w' => e = .panicked (refusalC k) ∧ Below w.heap.size w w' := by
  have HR := Aside0.mk hR
  have HGL := Aside0.mk hG
  have HA := heap_new w (Obj.cells #[v0, v1, .slice (some ⟨g, 0, none⟩) 2 c, v3] 129)
  have hb0 := below_alloc (Below.refl _ w) (Obj.cells #[v0, v1, .slice (some ⟨g, 0, none⟩) 2 c, v3] 129)
  have hx0 := pw_cell_below hb0 (hx 0 u rfl)
  have hx1 := pw_cell_below hb0 (hx 1 l rfl)
  have HK := Aside0.mk (fun W => must_no k hk W)
  clear hR hG hx
  go_enter Tryz.func124, Tryz.ntmps124
  go_wp2
  obtain ⟨b, hb⟩ : ∃ b, w.heap.size = b := ⟨_, rfl⟩
  have HZ := Aside0.mk hb
  obtain ⟨w1, e1⟩ : ∃ w1, w.alloc (Obj.cells #[v0, v1, .slice (some ⟨g, 0, none⟩) 2 c, v3] 129) = w1 := ⟨_, rfl⟩
  rw [e1] at HA hb0 hx0 hx1 ⊢
  rw [hb] at HA ⊢
  have HB1 := Aside0.mk (below_drew hb0)
  clear hb hb0 e1
  have y2 : w1.drew.cell? ⟨b, 2, none⟩ = some (.slice (some ⟨g, 0, none⟩) 2 c) := by show w1.cell? _ = _; rw [blk_cell HA]; rfl
  have y0 : w1.drew.cell? ⟨g, 0, none⟩ = some (.string u) := hx0
  have y1 : w1.drew.cell? ⟨g, 1, none⟩ = some (.string l) := hx1
  clear HA hx0 hx1
  go_region_held3 (fun w' => w'.cell? ⟨b, 2, none⟩ = some (.slice (some ⟨g, 0, none⟩) 2 c) ∧ w'.cell? ⟨g, 0, none⟩ = some (.string u) ∧ w'.cell? ⟨g, 1, none⟩ = some (.string l)) (first | (exact ⟨y2, y0, y1⟩) | (exact ⟨z2, z0, z1⟩)) (((with_reducible refine (HR.out _).mono ?_); rintro e w2 ⟨rfl, hb2⟩; have HB2 := Aside0.mk (HB1.out.trans (hb2.mono HB1.out.size)); have z2 := pw_cell_below hb2 y2; have z0 := pw_cell_below hb2 y0; have z1 := pw_cell_below hb2 y1; clear hb2))
  go_wp2_with (go_at_call 154; refine (HK.out _).mono ?_; rintro e w3 ⟨rfl, rfl⟩)
  exact ⟨rfl, rfl, HB2.out⟩
set_option maxHeartbeats 4000000 in
set_option maxRecDepth 100000 in
theorem plait_no (q g c : Nat) (n : Int) (l : List Int) (hl0' : 0 < l.length) (hl : l.length ≤ 200) (hc : l.length + 1 ≤ c) (k : Int) (hk : k ≠ 0) (v1 v2 v3 : Value) (w : World) (hx : IntRow w g (n :: l)) (hG : Glob w)
    (hH : ∀ W A c', Kd.C (Kd.int .i64) W A l.length l → Calls Tryz.prog 17 #[.int .i64 n, .slice A l.length c'] W fun e W' => e = .returned (.tuple #[.slice none 0 0, .int .i64 0, .int .i64 k]) ∧ Below W.heap.size W W') :
    Calls Tryz.prog 123 #[.pointer (some ⟨q, 0, none⟩), .agg #[.slice (some ⟨g, 0, none⟩) (l.length + 1) c, v1, v2, v3]] w fun e w' => e = .panicked (refusalC k) ∧ Below w.heap.size w w' := by
  have HH := Aside0.mk hH
  have HGL := Aside0.mk hG
  have HX := Aside0.mk hx
  have HLL := Aside0.mk hl
  have HA := heap_new w (Obj.cells #[.slice (some ⟨g, 0, none⟩) (l.length + 1) c, v1, v2, v3] 129)
  have hb0 := below_alloc (Below.refl _ w) (Obj.cells #[.slice (some ⟨g, 0, none⟩) (l.length + 1) c, v1, v2, v3] 129)
  have hx0 := pw_cell_below hb0 (hx 0 n rfl)
  have hp3 : ¬ (l.length + 1 ≤ 1) := by omega
  have hp4 : ¬ (l.length + 1 = 1) := by omega
  have hp5 : l.length + 1 - 1 = l.length := by omega
  have hp6 : ¬ c = 1 := by omega
  have hp7 : ¬ c ≤ 1 := by omega
  have hp8 : (1 : Int) ≤ (l.length : Int) + 1 := by omega
  have hp9 : (l.length : Int) + 1 ≤ (c : Int) := by omega
  have hp10 : (0 : Int) ≤ (l.length : Int) := by omega
  have hp11 : (1 : Int) ≤ (c : Int) := by omega
  have HK := Aside0.mk (fun W => must_no k hk W)
  clear hH hG hx
  go_enter Tryz.func123, Tryz.ntmps123
  go_wp2
  obtain ⟨b, hb⟩ : ∃ b, w.heap.size = b := ⟨_, rfl⟩
  have HZ := Aside0.mk hb
  obtain ⟨w1, e1⟩ : ∃ w1, w.alloc (Obj.cells #[.slice (some ⟨g, 0, none⟩) (l.length + 1) c, v1, v2, v3] 129) = w1 := ⟨_, rfl⟩
  rw [e1] at HA hb0 hx0 ⊢
  rw [hb] at HA ⊢
  have HB1 := Aside0.mk (below_drew hb0)
  clear hb hb0 e1
  have y2 : w1.drew.cell? ⟨b, 0, none⟩ = some (.slice (some ⟨g, 0, none⟩) (l.length + 1) c) := by show w1.cell? _ = _; rw [blk_cell HA]; rfl
  have y0 : w1.drew.cell? ⟨g, 0, none⟩ = some (.int .i64 n) := hx0
  have HC := Aside0.mk (Kd.C_below (IntRow.tailC HX.out (by omega)) HB1.out)
  clear HA hx0
  go_region_held3 (fun w' => w'.cell? ⟨b, 0, none⟩ = some (.slice (some ⟨g, 0, none⟩) (l.length + 1) c) ∧ w'.cell? ⟨g, 0, none⟩ = some (.int .i64 n)) (first | (exact ⟨y2, y0⟩) | (exact ⟨z2, z0⟩)) (((with_reducible refine (HH.out _ _ _ HC.out).mono ?_); rintro e w2 ⟨rfl, hb2⟩; have HB2 := Aside0.mk (HB1.out.trans (hb2.mono HB1.out.size)); have z2 := pw_cell_below hb2 y2; have z0 := pw_cell_below hb2 y0; clear hb2))
  go_wp2_with (go_at_call 154; refine (HK.out _).mono ?_; rintro e w3 ⟨rfl, rfl⟩)
  exact ⟨rfl, rfl, HB2.out⟩
set_option maxHeartbeats 4000000 in
set_option maxRecDepth 100000 in
theorem hex_ok (q g c n : Nat) (h1 : 1 ≤ n) (h2 : n ≤ 11) (s : ByteArray) (hs : s.size = n * n) (p : ByteArray) (hp : p.size ≤ 10) (D : List Int) (hD : D.length ≤ 1000) (hDb : ∀ x ∈ D, -9223372036854775808 ≤ x ∧ x ≤ 9223372036854775807) (v0 v1 v3 : Value) (w : World) (hx : w.cell? ⟨g, 0, none⟩ = some (.string s)) (hG : Glob w)
    (hW : ∀ W, StepsAt W → Calls Tryz.prog 19 #[.int .i64 n, .string s] W fun e W' => ∃ A' c2, e = .returned (.tuple #[.string p, .slice A' D.length c2, .int .i64 0]) ∧ ReadsInt W' .i64 A' D.length D ∧ Below W.heap.size W W') :
    Calls Tryz.prog 125 #[.pointer (some ⟨q, 0, none⟩), .agg #[v0, v1, .slice (some ⟨g, 0, none⟩) 1 c, v3]] w fun e w' => e = .returned (.string (p ++ ⟨#[32]⟩ ++ lineOf (D.map itoaB))) ∧ Below w.heap.size w w' := by
  have HW := Aside0.mk hW
  have HGL := Aside0.mk hG
  have HA := heap_new w (Obj.cells #[v0, v1, .slice (some ⟨g, 0, none⟩) 1 c, v3] 129)
  have hb0 := below_alloc (Below.refl _ w) (Obj.cells #[v0, v1, .slice (some ⟨g, 0, none⟩) 1 c, v3] 129)
  have y0 := pw_cell_below hb0 hx
  
  clear hW hG hx
  go_enter Tryz.func125, Tryz.ntmps125
  go_wp2
  obtain ⟨b, hb⟩ : ∃ b, w.heap.size = b := ⟨_, rfl⟩
  have HZ := Aside0.mk hb
  obtain ⟨w1, e1⟩ : ∃ w1, w.alloc (Obj.cells #[v0, v1, .slice (some ⟨g, 0, none⟩) 1 c, v3] 129) = w1 := ⟨_, rfl⟩
  rw [e1] at HA hb0 y0 ⊢
  rw [hb] at HA ⊢
  have HB1 := Aside0.mk hb0
  clear hb hb0 e1
  have y2 : w1.cell? ⟨b, 2, none⟩ = some (.slice (some ⟨g, 0, none⟩) 1 c) := by rw [blk_cell HA]; rfl
  clear HA
  go_loopg [5] (n - 1) (fun q v5 wr => ∃ k : Nat, v5 = .int .i64 k ∧ k + q = n ∧ 1 ≤ k ∧ wr = w1)
  case atStart => exact ⟨1, rfl, by omega, Nat.le_refl 1, rfl⟩
  case round =>
    obtain ⟨k, rfl, hkq, hk1, rfl⟩ := hrel
    have hkk : k * k ≤ 11 * 11 := Nat.mul_le_mul (by omega) (by omega)
    have hci : ((k : Int) * (k : Int)) = ((k * k : Nat) : Int) := by rw [Int.natCast_mul]
    by_cases hlt : k < n
    · obtain ⟨q', rfl⟩ : ∃ q, gk = q + 1 := ⟨gk - 1, by omega⟩
      have hm : (k + 1) * (k + 1) ≤ n * n := Nat.mul_le_mul (by omega) (by omega)
      have hm2 : k * k < (k + 1) * (k + 1) := Nat.mul_self_lt_mul_self (by omega)
      have hd1 : decide ((k : Int) < 11) = true := decide_eq_true (by omega)
      have hd2 : decide ((k : Int) * (k : Int) < (s.size : Int)) = true := decide_eq_true (by rw [hci, hs]; exact Int.ofNat_lt.2 (Nat.lt_of_lt_of_le hm2 hm))
      have hw1 : IntKind.i64.wrap ((k : Int) * (k : Int)) = (k : Int) * (k : Int) := by rw [hci]; exact IntWalk.i64_in _ (by omega)
      have hw2 : wrap64 ((k : Int) * (k : Int)) = (k : Int) * (k : Int) := by rw [hci]; unfold wrap64; omega
      clear hm hm2 hkk hci hs
      go_wp2
      go_roundg q'
      case measure => omega
      case rel => exact ⟨k + 1, by go_num, by omega, by omega, rfl⟩
    · obtain rfl : k = n := by omega
      have hw1 : IntKind.i64.wrap ((k : Int) * (k : Int)) = (k : Int) * (k : Int) := by rw [hci]; exact IntWalk.i64_in _ (by omega)
      have hw2 : wrap64 ((k : Int) * (k : Int)) = (k : Int) * (k : Int) := by rw [hci]; unfold wrap64; omega
      have hd2 : decide ((k : Int) * (k : Int) < (s.size : Int)) = false := decide_eq_false (by rw [hci, hs]; exact Int.lt_irrefl _)
      have hq : ((k : Int) * (k : Int) == (s.size : Int)) = true := by rw [hs, hci]; simp
      have HWc := Aside0.mk (HW.out _ (HGL.out.below HB1.out).steps)
      clear hkk hci hs
      have hcase : ∀ P : Prop, (decide ((k : Int) < 11) = true → P) → (decide ((k : Int) < 11) = false → P) → P := fun P f g => by
        cases h : decide ((k : Int) < 11)
        · exact g h
        · exact f h
      refine hcase _ (fun hd1 => ?_) (fun hd1 => ?_)
      all_goals
        clear hcase
        have hDl := line_len D hD hDb
        have hadd1 : ∀ (W : World), (Op.stringOp .add p ⟨#[32]⟩).run Tryz.prog W = .ok (.string (p ++ ⟨#[32]⟩)) W := fun W => run_string_add_sum W _ _ (by
          have h2 : (ByteArray.mk #[32]).size = 1 := rfl
          omega)
        have hadd2 : ∀ (W : World), (Op.stringOp .add (p ++ ⟨#[32]⟩) (lineOf (D.map itoaB))).run Tryz.prog W = .ok (.string (p ++ ⟨#[32]⟩ ++ lineOf (D.map itoaB))) W := fun W => run_string_add_sum W _ _ (by
          have : (lineOf (D.map itoaB)).size ≤ 22000 := by show (Lib.join _ _).toArray.size ≤ _; rw [List.size_toArray]; exact hDl
          have h2 : (ByteArray.mk #[32]).size = 1 := rfl
          rw [ByteArray.size_append]
          omega)
        clear hDl
        go_wp2_with (first | (go_at_call 153; refine (ensure_ok _ _).mono ?_; rintro e w0 ⟨rfl, rfl⟩) | (go_at_call 19; refine HWc.out.mono ?_; rintro e w2 ⟨A', c2, rfl, hrd, hb2⟩; have HRD := Aside0.mk hrd; have HB2 := Aside0.mk (HB1.out.trans (hb2.mono HB1.out.size)); have HJ := Aside0.mk (joined_calls A' c2 D hD hDb w2 (HGL.out.below HB2.out) HRD.out); clear hb2) | (go_at_call 154; refine (must_ok _).mono ?_; rintro e w3 ⟨rfl, rfl⟩) | (go_at_call 159; refine HJ.out.mono ?_; rintro e w4 ⟨rfl, hb4⟩; have HB4 := Aside0.mk (HB2.out.trans (hb4.mono HB2.out.size)); clear hb4))
        go_ret
        exact ⟨rfl, HB4.out⟩
set_option maxHeartbeats 4000000 in
set_option maxRecDepth 100000 in
theorem hex_no (q g c n : Nat) (h1 : 1 ≤ n) (h2 : n ≤ 11) (s : ByteArray) (hs : s.size = n * n) (k : Int) (hk : k ≠ 0) (v0 v1 v3 : Value) (w : World) (hx : w.cell? ⟨g, 0, none⟩ = some (.string s)) (hG : Glob w)
    (hW : ∀ W, StepsAt W → Calls Tryz.prog 19 #[.int .i64 n, .string s] W fun e W' => e = .returned (.tuple #[.string ⟨#[]⟩, .slice none 0 0, .int .i64 k]) ∧ Below W.heap.size W W') :
    Calls Tryz.prog 125 #[.pointer (some ⟨q, 0, none⟩), .agg #[v0, v1, .slice (some ⟨g, 0, none⟩) 1 c, v3]] w fun e w' => e = .panicked (refusalC k) ∧ Below w.heap.size w w' := by
  have HW := Aside0.mk hW
  have HGL := Aside0.mk hG
  have HA := heap_new w (Obj.cells #[v0, v1, .slice (some ⟨g, 0, none⟩) 1 c, v3] 129)
  have hb0 := below_alloc (Below.refl _ w) (Obj.cells #[v0, v1, .slice (some ⟨g, 0, none⟩) 1 c, v3] 129)
  have y0 := pw_cell_below hb0 hx
  have HK := Aside0.mk (fun W => must_no k hk W)
  clear hW hG hx
  go_enter Tryz.func125, Tryz.ntmps125
  go_wp2
  obtain ⟨b, hb⟩ : ∃ b, w.heap.size = b := ⟨_, rfl⟩
  have HZ := Aside0.mk hb
  obtain ⟨w1, e1⟩ : ∃ w1, w.alloc (Obj.cells #[v0, v1, .slice (some ⟨g, 0, none⟩) 1 c, v3] 129) = w1 := ⟨_, rfl⟩
  rw [e1] at HA hb0 y0 ⊢
  rw [hb] at HA ⊢
  have HB1 := Aside0.mk hb0
  clear hb hb0 e1
  have y2 : w1.cell? ⟨b, 2, none⟩ = some (.slice (some ⟨g, 0, none⟩) 1 c) := by rw [blk_cell HA]; rfl
  clear HA
  go_loopg [5] (n - 1) (fun q v5 wr => ∃ k : Nat, v5 = .int .i64 k ∧ k + q = n ∧ 1 ≤ k ∧ wr = w1)
  case atStart => exact ⟨1, rfl, by omega, Nat.le_refl 1, rfl⟩
  case round =>
    obtain ⟨k, rfl, hkq, hk1, rfl⟩ := hrel
    have hkk : k * k ≤ 11 * 11 := Nat.mul_le_mul (by omega) (by omega)
    have hci : ((k : Int) * (k : Int)) = ((k * k : Nat) : Int) := by rw [Int.natCast_mul]
    by_cases hlt : k < n
    · obtain ⟨q', rfl⟩ : ∃ q, gk = q + 1 := ⟨gk - 1, by omega⟩
      have hm : (k + 1) * (k + 1) ≤ n * n := Nat.mul_le_mul (by omega) (by omega)
      have hm2 : k * k < (k + 1) * (k + 1) := Nat.mul_self_lt_mul_self (by omega)
      have hd1 : decide ((k : Int) < 11) = true := decide_eq_true (by omega)
      have hd2 : decide ((k : Int) * (k : Int) < (s.size : Int)) = true := decide_eq_true (by rw [hci, hs]; exact Int.ofNat_lt.2 (Nat.lt_of_lt_of_le hm2 hm))
      have hw1 : IntKind.i64.wrap ((k : Int) * (k : Int)) = (k : Int) * (k : Int) := by rw [hci]; exact IntWalk.i64_in _ (by omega)
      have hw2 : wrap64 ((k : Int) * (k : Int)) = (k : Int) * (k : Int) := by rw [hci]; unfold wrap64; omega
      clear hm hm2 hkk hci hs
      go_wp2
      go_roundg q'
      case measure => omega
      case rel => exact ⟨k + 1, by go_num, by omega, by omega, rfl⟩
    · obtain rfl : k = n := by omega
      have hw1 : IntKind.i64.wrap ((k : Int) * (k : Int)) = (k : Int) * (k : Int) := by rw [hci]; exact IntWalk.i64_in _ (by omega)
      have hw2 : wrap64 ((k : Int) * (k : Int)) = (k : Int) * (k : Int) := by rw [hci]; unfold wrap64; omega
      have hd2 : decide ((k : Int) * (k : Int) < (s.size : Int)) = false := decide_eq_false (by rw [hci, hs]; exact Int.lt_irrefl _)
      have hq : ((k : Int) * (k : Int) == (s.size : Int)) = true := by rw [hs, hci]; simp
      have HWc := Aside0.mk (HW.out _ (HGL.out.below HB1.out).steps)
      clear hkk hci hs
      have hcase : ∀ P : Prop, (decide ((k : Int) < 11) = true → P) → (decide ((k : Int) < 11) = false → P) → P := fun P f g => by
        cases h : decide ((k : Int) < 11)
        · exact g h
        · exact f h
      refine hcase _ (fun hd1 => ?_) (fun hd1 => ?_)
      all_goals
        clear hcase
        go_wp2_with (first | (go_at_call 153; refine (ensure_ok _ _).mono ?_; rintro e w0 ⟨rfl, rfl⟩) | (go_at_call 19; refine HWc.out.mono ?_; rintro e w2 ⟨rfl, hb2⟩; have HB2 := Aside0.mk (HB1.out.trans (hb2.mono HB1.out.size));  clear hb2) | (go_at_call 154; refine (HK.out _).mono ?_; rintro e w3 ⟨rfl, rfl⟩))
        exact ⟨rfl, rfl, HB2.out⟩
end Go.Proofs.YtldohjlcckbfaaaGreatDoor.Hand
