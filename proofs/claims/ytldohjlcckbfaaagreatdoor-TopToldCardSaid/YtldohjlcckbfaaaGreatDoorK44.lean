/- A part of the proof that pomadetop.TopTold returns true for every input: HandS. No condition beyond those that each theorem states. -/
import Derived.Laws.AppendOwn
import Derived.Deep.RegionLaw
import Derived.Laws.Runes
import Derived.Test.YtldohjlcckbfaaaGreatDoorK11
namespace Go.Proofs.YtldohjlcckbfaaaGreatDoor.Hand
open Go.RowKit Go.Proofs.YtldohjlcckbfaaaGreatDoorW.PrintWords Go.Proofs.YtldohjlcckbfaaaGreatDoorW.PrintLast Go.Proofs.YtldohjlcckbfaaaGreatDoorW.PrintMore
set_option linter.unusedVariables false
set_option linter.unusedSimpArgs false
open Go.Proofs.YtldohjlcckbfaaaGreatDoor.Pre
abbrev i6 (n : Int) : Value := .int .i64 n
abbrev townV : Array Value := #[i6 3, i6 2, i6 4, i6 0, i6 0, i6 0, i6 0, i6 0, i6 0, i6 0, i6 0, i6 0, i6 0]
theorem cell_new (w : World) (xs : Array Value) (T k : Nat) (v : Value) (h : xs[k]? = some v) : (w.alloc (.cells xs T)).cell? ⟨w.heap.size, k, none⟩ = some v := by
  simp only [World.cell?, heap_alloc_new]
  simpa using h
set_option maxHeartbeats 2000000 in
set_option maxRecDepth 100000 in
theorem of_calls (b : Nat) (cap : Nat) (w : World) (h0 : w.cell? ⟨b, 0, none⟩ = some (.int .i64 0)) (h1 : w.cell? ⟨b, 1, none⟩ = some (.int .i64 1)) (h2 : w.cell? ⟨b, 2, none⟩ = some (.int .i64 1)) (h3 : w.cell? ⟨b, 3, none⟩ = some (.int .i64 2)) (hb : b < w.heap.size) :
    Calls Tryz.prog 82 #[.int .i64 3, .slice (some ⟨b, 0, none⟩) 2 cap] w fun e w' => e = .returned (.tuple #[.agg townV, .int .i64 0]) ∧ Below w.heap.size w w' := by
  have n1 : ¬ b = w.heap.size + 1 := by omega
  have n2 : ¬ b = w.heap.size := by omega
  have n3 : ¬ b = w.heap.size + 1 + 1 := by omega
  have n4 : ¬ w.heap.size + 1 = b := by omega
  have n5 : b < w.heap.size + 1 := by omega
  have n6 : b < w.heap.size + 1 + 1 := by omega
  have b1 : bits .or .i64 0 2 = 2 := by rfl
  have b2 : bits .or .i64 0 4 = 4 := by rfl
  go_enter Tryz.func82, Tryz.ntmps82
  go_wp2
  refine wp_loop_rounds 3 ?_
  rw [rounds_succ]
  go_wp2
  go_region
  go_wp2
  rw [rounds_succ]
  go_wp2
  go_region
  go_wp2
  rw [rounds_succ]
  go_wp2
  refine bodyPost_ret (v := .tuple #[.agg townV, .int .i64 0]) (by simp [results, Tryz.results82, go_sem]) rfl ⟨rfl, ?_⟩
  repeat (first | exact Below.refl _ _ | apply below_drew1 | apply below_alloc)
theorem members_any (n : Int) (xs : List Int) (h : shave_members.f 20 n = some xs) (w : World) :
    Calls Tryz.prog 83 #[.int .i64 n] w fun e w' => ∃ A c, e = .returned (.slice A xs.length c) ∧ Kd.C (Kd.int .i64) w' A xs.length xs ∧ Kd.R (Kd.int .i64) 3 w' w.heap.size (fun _ => True) (.slice A xs.length c) xs ∧ Below w.heap.size w w' :=
  (shave_members.calls 20 n xs w h).mono fun e w' ⟨v, he, hr, hb⟩ => by
    obtain ⟨A, c, rfl⟩ := Kd.R_slice hr
    exact ⟨A, c, he, (Kd.R_reads' hr).2.2, hr, hb⟩
theorem members1 (n x : Int) (h : shave_members.f 20 n = some [x]) (w : World) :
    Calls Tryz.prog 83 #[.int .i64 n] w fun e w' => ∃ g c, e = .returned (.slice (some ⟨g, 0, none⟩) 1 c) ∧ w'.cell? ⟨g, 0, none⟩ = some (.int .i64 x) ∧ w.heap.size ≤ g ∧ Below w.heap.size w w' :=
  (members_any n [x] h w).mono fun e w' ⟨A, c, he, hc, hr, hb⟩ => by
    obtain ⟨ad, rfl, h1⟩ := Kd.at_int hc 0 (by omega) (by simp)
    have e0 : ad.add (Int.toNat 0) = ad := by simp [Addr.add]
    rw [e0] at h1
    obtain ⟨_, inner, ⟨_, hh⟩, _⟩ := hr
    rcases hh with ⟨hv, _⟩ | ⟨g, cap, cur, hv, hg, _⟩
    · cases hv
    · cases hv
      exact ⟨g, c, he, h1, hg, hb⟩
theorem members0 (n : Int) (h : shave_members.f 20 n = some []) (w : World) :
    Calls Tryz.prog 83 #[.int .i64 n] w fun e w' => ∃ A c, e = .returned (.slice A 0 c) ∧ Below w.heap.size w w' :=
  (members_any n [] h w).mono fun e w' ⟨A, c, he, hc, _, hb⟩ => ⟨A, c, he, hb⟩
def sen1 : ByteArray := ⟨#[33, 98]⟩
def sen2 : ByteArray := ⟨#[33, 99]⟩
def sen3 : ByteArray := ⟨#[49]⟩
structure TownAt (p : Nat) (w : World) : Prop where
  at_ : w.heap[p]? = some (.cells townV 147 (0, 0))
theorem TownAt.cell {p : Nat} {w : World} (h : TownAt p w) (k : Nat) (v : Value) (hv : townV[k]? = some v) : w.cell? ⟨p, k, none⟩ = some v := by
  simp only [World.cell?, h.at_]
  simpa using hv
theorem TownAt.lt {p : Nat} {w : World} (h : TownAt p w) : p < w.heap.size := (Array.getElem?_eq_some_iff.1 h.at_).1
theorem TownAt.below {p : Nat} {w w' : World} (h : TownAt p w) (hb : Below w.heap.size w w') : TownAt p w' := ⟨(hb.5 _ h.lt).trans h.at_⟩
theorem TownAt.grown {p : Nat} {w w' : World} (h : TownAt p w) {row : Option Nat} (hg : w.grownBy w' row) (hr : row ≠ some p) : TownAt p w' := ⟨(hg.block _ h.lt (fun e => hr e.symm)).trans h.at_⟩
theorem TownAt.alloc {p : Nat} {w : World} (h : TownAt p w) (o : Obj) : TownAt p (w.alloc o) := h.below (below_alloc (Below.refl _ _) o)
theorem TownAt.new (w : World) : TownAt w.heap.size (w.alloc (.cells townV 147)) := ⟨by rw [heap_alloc_new]⟩
theorem own_lower1 {w : World} {base base' : Nat} {e : TypeId} {size n : Nat} {v : Value} {xs : List Value} (h : w.ownsRow base e size v n xs) (hb : base' ≤ base) : w.ownsRow base' e size v n xs := by
  obtain ⟨h1, h2⟩ := h
  refine ⟨h1, ?_⟩
  rcases h2 with h2 | ⟨g, cap, cur, r1, r2, r3⟩
  · exact .inl h2
  · exact .inr ⟨g, cap, cur, r1, Nat.le_trans hb r2, r3⟩
theorem sen_step {w w2 w3 : World} {p : Nat} {v : Value} {n : Nat} {l : List Value} {o : Obj} (hT : TownAt p w2) (hB : Below w.heap.size w w2) (hp : w.heap.size ≤ p)
    (hO : w2.ownsRow (p + 1) 9 1 v n l) (hg : (w2.alloc o).grownBy w3 v.ownBlock) : TownAt p w3 ∧ Below w.heap.size w w3 := by
  refine ⟨(hT.alloc o).grown hg fun e => ?_, ?_⟩
  · have := own_base hO p e; omega
  · exact pw_below_grown (below_alloc hB o) _ (by have := hB.size; simp; omega) hg (fun k hk => by have := own_base hO k hk; omega)
set_option maxHeartbeats 4000000 in
set_option maxRecDepth 100000 in
theorem sentences_calls (b : Nat) (cap : Nat) (w : World) (h0 : w.cell? ⟨b, 0, none⟩ = some (.int .i64 0)) (h1 : w.cell? ⟨b, 1, none⟩ = some (.int .i64 1)) (h2 : w.cell? ⟨b, 2, none⟩ = some (.int .i64 1)) (h3 : w.cell? ⟨b, 3, none⟩ = some (.int .i64 2)) (hb : b < w.heap.size) :
    Calls Tryz.prog 45 #[.int .i64 3, .slice (some ⟨b, 0, none⟩) 2 cap] w fun e w' => ∃ v, e = .returned (.tuple #[v, .int .i64 0]) ∧ w'.ownsRow w.heap.size 9 1 v 3 [.string sen1, .string sen2, .string sen3] ∧ Below w.heap.size w w' := by
  have info9 : (Tryz.prog.info? 9).map (fun i => (i.zero, i.size, i.bytes)) = some (some (.string ByteArray.empty), 1, 16) := by kernel_rfl
  obtain ⟨i0, hi, hz0, hz1, hz2⟩ := info_parts info9
  have e1 : (⟨#[33]⟩ : ByteArray) ++ Utf8.encode 98 = sen1 := by decide
  have e2 : (⟨#[33]⟩ : ByteArray) ++ Utf8.encode 99 = sen2 := by decide
  have s1 : sen1.size = 2 := rfl
  have s2 : sen2.size = 2 := rfl
  go_enter Tryz.func45, Tryz.ntmps45
  go_wp2_with fail
  refine (of_calls b cap _ h0 h1 h2 h3 hb).mono ?_
  rintro e w1 ⟨rfl, hb1⟩
  have HB1 := Aside0.mk hb1
  clear hb1 h0 h1 h2 h3
  go_wp2
  refine wp_loop_rounds 4 ?_
  rw [rounds_succ]
  have HB2 := Aside0.mk (below_alloc HB1.out (.cells townV 147))
  have hp : w.heap.size ≤ w1.heap.size := HB1.out.size
  have HT := Aside0.mk (TownAt.new w1)
  have HO := Aside0.mk (own_nil (w1.alloc (.cells townV 147)) (w1.heap.size + 1) 9 1)
  have k1 := HT.out.cell 1 _ rfl
  obtain ⟨p, hpd⟩ : ∃ p, w1.heap.size = p := ⟨_, rfl⟩
  obtain ⟨wt, hwt⟩ : ∃ wt, w1.alloc (.cells townV 147) = wt := ⟨_, rfl⟩
  rw [hpd] at HT HO hp k1 ⊢
  rw [hwt] at HB2 HT HO k1 ⊢
  clear hwt hpd HB1
  -- the first sentence
  go_wp2_with fail
  refine (members1 2 1 (by decide +kernel) _).mono ?_
  rintro e w2 ⟨g2, c2, rfl, hx2, hg2, hb2⟩
  have HT2 := Aside0.mk (HT.out.below hb2)
  have HB3 := Aside0.mk (HB2.out.trans (hb2.mono HB2.out.size))
  have HO2 := Aside0.mk (pw_own_below HO.out hb2)
  clear hb2 HB2 HO HT k1
  go_wp2
  refine wp_loop_rounds 2 ?_
  rw [rounds_succ]
  go_wp2
  rw [rounds_succ]
  go_wp2_with (at_builtin; refine wpList_append_own _ rfl _ _ 61 rfl (p + 1) 9 i0 (.string ByteArray.empty) 1 16 Tryz.underlying61 hi hz0 hz1 hz2 rfl (by decide) _ _ _ rfl (HO2.out.alloc _) ⟨w2.heap.size, 0, none⟩ 1 1 [.string sen1] rfl rfl ?c1 ?c2 (by decide) (by decide) ?c3 ?_)
  case c1 => exact cell_one_new _ _ _
  case c2 => intro u hu; simp at hu; subst hu; rfl
  case c3 => have := HT2.out.lt; simp; omega
  intro v3 w3 hown3 hgr3 _
  have HS3 := Aside0.mk (sen_step HT2.out HB3.out hp HO2.out hgr3)
  have HO3 := Aside0.mk hown3
  have k3 := HS3.out.1.cell 2 _ rfl
  clear hown3 hgr3 HT2 HB3 HO2 hx2
  go_wp2
  rw [rounds_succ]
  go_wp2_with fail
  refine (members1 4 2 (by decide +kernel) _).mono ?_
  rintro e w3a ⟨g3, c3, rfl, hx3, hg3, hb3a⟩
  have HT3a := Aside0.mk (HS3.out.1.below hb3a)
  have HB3a := Aside0.mk (HS3.out.2.trans (hb3a.mono HS3.out.2.size))
  have HO3a := Aside0.mk (pw_own_below HO3.out hb3a)
  clear hb3a HS3 HO3 k3
  go_wp2
  refine wp_loop_rounds 2 ?_
  rw [rounds_succ]
  go_wp2
  rw [rounds_succ]
  go_wp2_with (at_builtin; refine wpList_append_own _ rfl _ _ 61 rfl (p + 1) 9 i0 (.string ByteArray.empty) 1 16 Tryz.underlying61 hi hz0 hz1 hz2 rfl (by decide) _ _ _ rfl (HO3a.out.alloc _) ⟨w3a.heap.size, 0, none⟩ 1 1 [.string sen2] rfl rfl ?c1 ?c2 (by decide) (by decide) ?c3 ?_)
  case c1 => exact cell_one_new _ _ _
  case c2 => intro u hu; simp at hu; subst hu; rfl
  case c3 => have := HT3a.out.lt; simp; omega
  intro v4 w4 hown4 hgr4 _
  have HS4 := Aside0.mk (sen_step HT3a.out HB3a.out hp HO3a.out hgr4)
  have HO4 := Aside0.mk hown4
  have k4 := HS4.out.1.cell 3 _ rfl
  clear hown4 hgr4 HT3a HB3a HO3a hx3
  go_wp2
  rw [rounds_succ]
  go_wp2_with fail
  refine (members0 0 (by decide +kernel) _).mono ?_
  rintro e w4a ⟨A4, c4, rfl, hb4a⟩
  have HT4a := Aside0.mk (HS4.out.1.below hb4a)
  have HB4a := Aside0.mk (HS4.out.2.trans (hb4a.mono HS4.out.2.size))
  have HO4a := Aside0.mk (pw_own_below HO4.out hb4a)
  clear hb4a HS4 HO4 k4
  go_wp2
  refine wp_loop_rounds 1 ?_
  rw [rounds_succ]
  go_wp2_with (at_builtin; refine wpList_append_own _ rfl _ _ 61 rfl (p + 1) 9 i0 (.string ByteArray.empty) 1 16 Tryz.underlying61 hi hz0 hz1 hz2 rfl (by decide) _ _ _ rfl (HO4a.out.alloc _) ⟨w4a.heap.size, 0, none⟩ 1 1 [.string sen3] rfl rfl ?c1 ?c2 (by decide) (by decide) ?c3 ?_)
  case c1 => exact cell_one_new _ _ _
  case c2 => intro u hu; simp at hu; subst hu; rfl
  case c3 => have := HT4a.out.lt; simp; omega
  intro v5 w5 hown5 hgr5 _
  have HS5 := Aside0.mk (sen_step HT4a.out HB4a.out hp HO4a.out hgr5)
  have HO5 := Aside0.mk hown5
  clear hown5 hgr5 HT4a HB4a HO4a
  go_wp2
  rw [rounds_succ]
  go_wp2
  go_ret2
  exact ⟨v5, rfl, own_lower1 HO5.out (by omega), HS5.out.2⟩
end Go.Proofs.YtldohjlcckbfaaaGreatDoor.Hand
