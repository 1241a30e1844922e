/- A part of the proof that pomadetop.TopTold returns true for every input: HandVc, HandVd, HandVe. No condition beyond those that each theorem states. -/
import Derived.Test.YtldohjlcckbfaaaGreatDoorK37
namespace Go.Proofs.YtldohjlcckbfaaaGreatDoor.Hand
open Go.RowKit Go.Proofs.YtldohjlcckbfaaaGreatDoorW.PrintWords Go.Proofs.YtldohjlcckbfaaaGreatDoorW.PrintLast Go.Proofs.YtldohjlcckbfaaaGreatDoorW.PrintMore
set_option linter.unusedVariables false
set_option linter.unusedSimpArgs false
open Go.Proofs.YtldohjlcckbfaaaGreatDoor.Pre
open TopWords
theorem rep0 (w : World) : Calls Tryz.prog 85 #[.string ⟨#[48]⟩, .int .i64 10] w fun e w' => e = .returned (.string ⟨#[48, 48, 48, 48, 48, 48, 48, 48, 48, 48]⟩) ∧ Below w.heap.size w w' :=
  (Tryz.strings_Repeat ⟨#[48]⟩ 10 w (by decide) (by decide)).mono fun e w' ⟨he, hb⟩ => ⟨he.trans (by rfl), hb⟩
structure BBlk (w : World) (q : Nat) (B : List Int) : Prop where
  at_ : ∃ C fz, w.heap[q]? = some (.cells C 5 fz) ∧ (∀ (j : Nat) x, B[j]? = some x → C[j]? = some (.int .u8 x)) ∧ 10 ≤ fz.1
theorem BBlk.bytes {w : World} {q : Nat} {B : List Int} (h : BBlk w q B) : BytesAt w q B := by
  obtain ⟨C, fz, h1, h2, _⟩ := h.at_
  intro j x hj
  rw [cell_of_row w q j C 5 fz h1]
  exact h2 j x hj
theorem BBlk.free {w : World} {q : Nat} {B : List Int} (h : BBlk w q B) (j : Nat) (hj : j < 10) : w.frozen? ⟨q, j, none⟩ = false := by
  obtain ⟨C, fz, h1, _, h3⟩ := h.at_
  simp [World.frozen?, h1]
  omega
theorem BBlk.below {w w' : World} {q : Nat} {B : List Int} (h : BBlk w q B) (hb : Below w.heap.size w w') : BBlk w' q B := by
  obtain ⟨C, fz, h1, h2, h3⟩ := h.at_
  exact ⟨C, fz, blk_below h1 hb, h2, h3⟩
theorem BBlk.set {w : World} {q : Nat} {B : List Int} (h : BBlk w q B) (i : Nat) (x : Int) : BBlk (w.setCell ⟨q, i, none⟩ (.int .u8 x)) q (B.set i x) := by
  obtain ⟨C, fz, h1, h2, h3⟩ := h.at_
  refine ⟨C.set! i (.int .u8 x), fz, ?_, ?_, h3⟩
  · simp [World.setCell, Array.getElem?_modify, h1]
  · intro j y hj
    by_cases hij : i = j
    · subst hij
      have hl : i < B.length := by
        have := (List.getElem?_eq_some_iff.1 hj).1
        rwa [List.length_set] at this
      rw [List.getElem?_set_self hl] at hj
      cases hj
      have hC : i < C.size := by
        have := h2 i B[i] (List.getElem?_eq_getElem hl)
        exact (Array.getElem?_eq_some_iff.1 this).1
      simp [hC]
    · rw [List.getElem?_set_ne hij] at hj
      have := h2 j y hj
      simp [hij, this]
theorem bin_set {B : List Int} (h : bin B) (i : Nat) (x : Int) (hx : x = 48 ∨ x = 49) : bin (B.set i x) := by
  refine ⟨by rw [List.length_set]; exact h.1, fun y hy => ?_⟩
  rcases List.mem_or_eq_of_mem_set hy with h1 | h1
  · exact h.2 y h1
  · rw [h1]; exact hx
theorem memL_in (s i : Nat) : ∀ x ∈ memL s i, ∃ j : Nat, x = j ∧ j < i ∧ bitOf s j = true := by
  intro x hx
  unfold memL at hx
  obtain ⟨j, hj, rfl⟩ := List.mem_map.1 hx
  rw [List.mem_filter] at hj
  exact ⟨j, rfl, List.mem_range.1 hj.1, hj.2⟩
theorem memL_zero (s : Nat) (h : bitOf s 0 = true) : (0 : Int) ∈ memL s 10 := by
  unfold memL
  exact List.mem_map.2 ⟨0, List.mem_filter.2 ⟨by simp, h⟩, rfl⟩
theorem wrong_zero {B : List Int} (h : bin B) : wrong B 0 = true := by
  unfold wrong
  have := bin_at h (j := 0) (by decide)
  rw [List.getD_eq_getElem?_getD]
  rcases this with e | e
  · rw [e]; decide
  · rw [e]; decide
theorem wrong_all {x : Nat} (h0 : x ≠ 0) (hx : x < 10) : wrong (List.replicate 10 48) x = false := by
  unfold wrong val
  rw [if_neg h0, List.getD_eq_getElem?_getD, List.getElem?_replicate, if_pos hx]
  rfl
theorem pow_wrap0 : ∀ n : Fin 11, wrap64 (2 ^ min n.val 64) = ((2 ^ n.val : Nat) : Int) := by decide +kernel
theorem pow_wrap (n : Nat) (h : n ≤ 10) : wrap64 (2 ^ min n 64) = ((2 ^ n : Nat) : Int) := pow_wrap0 ⟨n, by omega⟩
theorem zeros_blk (w : World) (cp : Nat) : BBlk (w.alloc (Obj.cells (bytesRow ⟨#[48, 48, 48, 48, 48, 48, 48, 48, 48, 48]⟩ cp) 5 ((bytesRow ⟨#[48, 48, 48, 48, 48, 48, 48, 48, 48, 48]⟩ cp).size, (bytesRow ⟨#[48, 48, 48, 48, 48, 48, 48, 48, 48, 48]⟩ cp).size + 1))) w.heap.size (List.replicate 10 48) := by
  refine ⟨_, _, heap_new w _, ?_, ?_⟩
  · intro j x hj
    rw [List.getElem?_replicate] at hj
    split at hj
    · rename_i hlt
      cases hj
      unfold bytesRow
      rw [Array.getElem?_append_left (by simpa using hlt)]
      have : j = 0 ∨ j = 1 ∨ j = 2 ∨ j = 3 ∨ j = 4 ∨ j = 5 ∨ j = 6 ∨ j = 7 ∨ j = 8 ∨ j = 9 := by omega
      rcases this with rfl | rfl | rfl | rfl | rfl | rfl | rfl | rfl | rfl | rfl <;> simp
    · cases hj
  · show 10 ≤ (bytesRow ⟨#[48, 48, 48, 48, 48, 48, 48, 48, 48, 48]⟩ cp).size
    unfold bytesRow
    rw [Array.size_append]
    simp
structure CEnv (W0 : World) (bs q g c cp : Nat) (A1 : Option Addr) (c1 s : Nat) (B : List Int) (w : World) : Prop where
  lo : bs < q ∧ g < W0.heap.size ∧ W0.heap.size ≤ q
  row : w.heap[bs]? = some (.cells #[.slice (some ⟨g, 0, none⟩) 10 c] 151 (0, 0))
  vc : w.heap[q + 1]? = some (.cells #[.slice (some ⟨q, 0, none⟩) 10 cp] 98 (0, 0))
  blk : BBlk w q B
  bin : bin B
  own : w.ownsRow W0.heap.size 3 1 (.slice A1 (memL s 10).length c1) (memL s 10).length (nums .i64 (memL s 10))
  frm : FrmRow w g
  below : Below W0.heap.size W0 w
theorem CEnv.step {W0 : World} {bs q g c cp : Nat} {A1 : Option Addr} {c1 s : Nat} {B : List Int} {w w' : World} (e : CEnv W0 bs q g c cp A1 c1 s B w) (hb : Below w.heap.size w w') : CEnv W0 bs q g c cp A1 c1 s B w' :=
  ⟨e.lo, blk_below e.row hb, blk_below e.vc hb, e.blk.below hb, e.bin, pw_own_below e.own hb, fun j hj => pw_cell_below hb (e.frm j hj), e.below.trans (hb.mono e.below.size)⟩
theorem CEnv.set {W0 : World} {bs q g c cp : Nat} {A1 : Option Addr} {c1 s : Nat} {B : List Int} {w : World} (e : CEnv W0 bs q g c cp A1 c1 s B w) (i : Nat) (x : Int) (hx : x = 48 ∨ x = 49) : CEnv W0 bs q g c cp A1 c1 s (B.set i x) (w.setCell ⟨q, i, none⟩ (.int .u8 x)) := by
  obtain ⟨l1, l2, l3⟩ := e.lo
  obtain ⟨C, fz, hC, _⟩ := e.blk.at_
  refine ⟨e.lo, ?_, ?_, e.blk.set i x, bin_set e.bin i x hx, ?_, ?_, e.below.setCell (p := ⟨q, i, none⟩) l3 _⟩
  · rw [Below.heap_setCell _ _ _ _ (by show bs ≠ q; omega)]; exact e.row
  · rw [Below.heap_setCell _ _ _ _ (by show q + 1 ≠ q; omega)]; exact e.vc
  · exact ownsRow_setCell_other e.own (fun h => own_not (by decide) e.own hC h.symm) _
  · intro j hj
    rw [show (w.setCell ⟨q, i, none⟩ (.int .u8 x)).cell? ⟨g, j, none⟩ = w.cell? ⟨g, j, none⟩ from cells_eq (Below.heap_setCell _ _ _ _ (by show g ≠ q; omega))]
    exact e.frm j hj
set_option maxHeartbeats 4000000 in
set_option maxRecDepth 100000 in
theorem consistent_calls (g c : Nat) (s : Nat) (hs : s < 1024) (w : World) (hf : FrmRow w g) :
    Calls Tryz.prog 198 #[.slice (some ⟨g, 0, none⟩) 10 c, .int .i64 s] w fun e w' => e = .returned (.bool (!bitOf s 0)) ∧ Below w.heap.size w w' := by
  have hmf : ∀ (fn : Fn) (first cap : Array Value) (w : World), (Instr.makeFunc fn first cap).run Tryz.prog w = .ok (.func fn first cap) w := fun _ _ _ _ => rfl
  have hcv := fun w => run_bytes_of_string (P := Tryz.prog) w 9 98 5 ⟨#[48, 48, 48, 48, 48, 48, 48, 48, 48, 48]⟩ Tryz.underlying9 Tryz.underlying98 Tryz.underlying5
  have HF := Aside0.mk hf
  have HM := Aside0.mk (fun W => truth_members s hs W)
  have HA := heap_new w (Obj.cells #[.slice (some ⟨g, 0, none⟩) 10 c] 151)
  have HB0 := Aside0.mk (below_alloc (Below.refl _ w) (Obj.cells #[.slice (some ⟨g, 0, none⟩) 10 c] 151))
  have HA0 := Aside0.mk HA
  clear hf
  go_enter Tryz.func198, Tryz.ntmps198
  go_wp2_with (first | (go_at_call 195; (with_reducible refine (HM.out _).mono ?_); rintro e w1 ⟨v, rfl, ho, hb1⟩; have HO1 := Aside0.mk ho; obtain ⟨A1, c1, rfl⟩ := own_slice ho; have HB1 := Aside0.mk (HB0.out.trans (hb1.mono HB0.out.size)); have HA1 := Aside0.mk (blk_below HA0.out hb1); have x1 := cellAt HA1.out; clear ho hb1) | (go_at_call 85; refine (rep0 _).mono ?_; rintro e w2 ⟨rfl, hb2⟩; have HB2 := Aside0.mk (HB1.out.trans (hb2.mono HB1.out.size)); have HO2 := Aside0.mk (pw_own_below HO1.out hb2); have HA2 := Aside0.mk (blk_below HA1.out hb2); clear hb2 x1))
  have hLn := memL_len s 10
  have HPW := Aside0.mk (pow_wrap (memL s 10).length hLn)
  obtain ⟨cp, hcp⟩ : ∃ cp, grownCap w2 10 0 5 = cp := ⟨_, rfl⟩
  rw [hcp]
  clear hcv hcp
  have hq0 := zeros_blk w2 cp
  obtain ⟨xo, hxo⟩ : ∃ o, Obj.cells (bytesRow ⟨#[48, 48, 48, 48, 48, 48, 48, 48, 48, 48]⟩ cp) 5 ((bytesRow ⟨#[48, 48, 48, 48, 48, 48, 48, 48, 48, 48]⟩ cp).size, (bytesRow ⟨#[48, 48, 48, 48, 48, 48, 48, 48, 48, 48]⟩ cp).size + 1) = o := ⟨_, rfl⟩
  rw [hxo] at hq0 ⊢
  clear hxo
  have hy := heap_new (w2.alloc xo) (Obj.cells #[Value.slice (some ⟨w2.heap.size, 0, none⟩) 10 cp] 98)
  rw [size_alloc] at hy
  have hb3 := below_drew (below_alloc (below_alloc (Below.refl _ w2) xo) (Obj.cells #[Value.slice (some ⟨w2.heap.size, 0, none⟩) 10 cp] 98))
  have hq3 := hq0.below (below_drew (below_alloc (Below.refl _ (w2.alloc xo)) (Obj.cells #[Value.slice (some ⟨w2.heap.size, 0, none⟩) 10 cp] 98)))
  obtain ⟨w3, h3⟩ : ∃ w3, ((w2.alloc xo).alloc (Obj.cells #[Value.slice (some ⟨w2.heap.size, 0, none⟩) 10 cp] 98)).drew = w3 := ⟨_, rfl⟩
  have hy3 : w3.heap[w2.heap.size + 1]? = some (Obj.cells #[Value.slice (some ⟨w2.heap.size, 0, none⟩) 10 cp] 98 (0, 0)) := by rw [← h3]; exact hy
  rw [h3] at hb3 hq3 ⊢
  have HA3 := Aside0.mk (blk_below HA2.out hb3)
  have HO3 := Aside0.mk (pw_own_below HO2.out hb3)
  have HB3 := Aside0.mk (HB2.out.trans (hb3.mono HB2.out.size))
  have HS2 := Aside0.mk HB2.out.size
  obtain ⟨q, hq⟩ : ∃ q, w2.heap.size = q := ⟨_, rfl⟩
  obtain ⟨bs, hbs⟩ : ∃ b, w.heap.size = b := ⟨_, rfl⟩
  rw [hq] at hy3 hq3 HS2 ⊢
  rw [hbs] at HA3 HS2 ⊢
  have HZ := Aside0.mk (And.intro hq hbs)
  have HY3 := Aside0.mk hy3
  have HQ3 := Aside0.mk hq3
  have HAw := Aside0.mk (show bs < w2.heap.size by have := HB2.out.size; have := HA2.out; have h := blk_lt this; omega)
  clear hq0 hy hb3 hq3 hy3 h3 hq hbs HA HA0 HA1 HA2 HB0 HB1 HB2 HO1 HO2 HM
  have hE : CEnv w bs q g c cp A1 c1 s (List.replicate 10 48) w3 := ⟨⟨by have := HAw.out; have := HZ.out.1; omega, World.block_lt_of_cell? w _ (HF.out 0 (by decide)), by have := HZ.out; have := HS2.out; omega⟩, HA3.out, HY3.out, HQ3.out, ⟨rfl, fun x hx => by left; exact List.eq_of_mem_replicate hx⟩, own_down HO3.out (by rw [size_alloc]; omega), fun j hj => pw_cell_below HB3.out (HF.out j hj), HB3.out⟩
  have HE := Aside0.mk hE
  have hpw := HPW.out
  obtain ⟨n, hn⟩ : ∃ n, (memL s 10).length = n := ⟨_, rfl⟩
  have HN := Aside0.mk hn
  rw [hn] at hLn hpw ⊢
  rw [hpw]
  have HN2 : 2 ^ n ≤ 1024 := Nat.pow_le_pow_right (by decide) hLn
  obtain ⟨N, hNN⟩ : ∃ N, 2 ^ n = N := ⟨_, rfl⟩
  have HN0 : 0 < N := by rw [← hNN]; exact Nat.two_pow_pos n
  rw [hNN] at HN2 ⊢
  clear hE HA3 HO3 HB3 HY3 HQ3 HAw HS2 HPW hpw hNN hn
  go_loopg [19] N (fun qq v19 wr => ∃ (r : Nat) (B : List Int), v19 = .int .i64 r ∧ r + qq = N ∧ Aside0 (r = 0 ∨ bitOf s 0 = true) ∧ Aside0 (r = 0 → B = List.replicate 10 48) ∧ Aside0 (CEnv w bs q g c cp A1 c1 s B wr))
  case atStart => exact ⟨0, _, rfl, by omega, ⟨.inl rfl⟩, ⟨fun _ => rfl⟩, HE⟩
  case round =>
    obtain ⟨r, B, rfl, hrq, HR, HR0, HEr⟩ := hrel
    by_cases hlt : r < N
    · obtain ⟨qq, rfl⟩ : ∃ q, gk = q + 1 := ⟨gk - 1, by omega⟩
      have hd : decide ((r : Int) < (N : Int)) = true := decide_eq_true (by omega)
      go_wp2
      go_loopg [24] n (fun q2 v24 wr => ∃ (k : Nat) (B : List Int), v24 = .int .i64 k ∧ k + q2 = n ∧ Aside0 (r = 0 → B = List.replicate 10 48) ∧ Aside0 (CEnv w bs q g c cp A1 c1 s B wr))
      case atStart => exact ⟨0, _, rfl, by omega, HR0, HEr⟩
      case round =>
        obtain ⟨k, B2, rfl, hkq, HR2, HE2⟩ := hrel
        by_cases hlk : k < n
        · obtain ⟨q2, rfl⟩ : ∃ q, gk = q + 1 := ⟨gk - 1, by omega⟩
          have hdk : decide ((k : Int) < (n : Int)) = true := decide_eq_true (by omega)
          have hLl := HN.out
          have hkl : k < (memL s 10).length := by omega
          obtain ⟨gl, cl, he, _, _⟩ := HE2.out.own.form (by omega)
          cases he
          obtain ⟨i, hi, hi10, hib⟩ := memL_in s 10 (memL s 10)[k] (List.getElem_mem hkl)
          have hcell := HE2.out.own.cells rfl k (.int .i64 (i : Int)) (by unfold nums; rw [List.getElem?_map, List.getElem?_eq_getElem hkl, hi]; rfl)
          rw [Addr.add_lit, Nat.zero_add] at hcell
          obtain ⟨t, ht⟩ : ∃ t, r / 2 ^ k = t := ⟨_, rfl⟩
          have htl : t ≤ r := by rw [← ht]; exact Nat.div_le_self _ _
          have hx : (r : Int) / 2 ^ k = (t : Int) := by rw [← ht]; simp
          have hbl : i < B2.length := by rw [HE2.out.bin.1]; exact hi10
          have z0 := cellAt (blk_drew HE2.out.vc)
          have z1 : wr.drew.cell? ⟨q, i, none⟩ = some (.int .u8 B2[i]) := HE2.out.blk.bytes i B2[i] (List.getElem?_eq_getElem hbl)
          have z2 : wr.drew.frozen? ⟨q, i, none⟩ = false := HE2.out.blk.free i hi10
          have hi1 : (0 : Int) ≤ (i : Int) := by omega
          have hi2 : (i : Int) < 10 := by omega
          have H48 := Aside0.mk ((HE2.out.step (below_drew (Below.refl _ wr))).set i 48 (.inl rfl))
          have H49 := Aside0.mk ((HE2.out.step (below_drew (Below.refl _ wr))).set i 49 (.inr rfl))
          have HT := Aside0.mk (show r = 0 → t = 0 from fun h => by omega)
          have HRS := Aside0.mk (show r = 0 → B2.set i 48 = List.replicate 10 48 from fun h => by
            rw [HR2.out h]
            exact List.set_replicate_self)
          have hab : bits .and .i64 (t : Int) 1 = ((t % 2 : Nat) : Int) := and_bit ⟨t, by omega⟩
          obtain ⟨bo, hbo⟩ : ∃ b, B2[i] = b := ⟨_, rfl⟩
          rw [hbo] at z1
          clear hbo
          clear ht htl hbl hi hkl hib
          by_cases h1 : t % 2 = 1
          · have hb : bits .and .i64 (t : Int) 1 = 1 := by rw [hab, h1]; rfl
            have HT2 := Aside0.mk (show r ≠ 0 from fun h => by have := HT.out h; subst this; simp at h1)
            clear hab h1
            go_wp2
            go_still_tail 9, (by kernel_rfl)
            change wpList _ _ _ _ _ (World.drew wr)
            go_wp2
            go_roundg q2
            case measure => omega
            case rel => exact ⟨k + 1, _, by go_num, by omega, ⟨fun h => absurd h HT2.out⟩, H49⟩
          · have h2 : t % 2 = 0 := by omega
            have hb : bits .and .i64 (t : Int) 1 = 0 := by rw [hab, h2]; rfl
            clear hab h1 h2
            go_wp2
            go_still_tail 9, (by kernel_rfl)
            change wpList _ _ _ _ _ (World.drew wr)
            go_wp2
            go_roundg q2
            case measure => omega
            case rel => exact ⟨k + 1, _, by go_num, by omega, HRS, H48⟩
        · obtain rfl : k = n := by omega
          have hdk : decide ((k : Int) < (k : Int)) = false := decide_eq_false (by omega)
          have hLl := HN.out
          have HC := Aside0.mk (containsFuncI 233 #[.pointer (some ⟨bs, 0, none⟩), .pointer (some ⟨q + 1, 0, none⟩)] (enters_of Tryz.func233 (by kernel_rfl) rfl) (memL s 10) A1 c1 (by omega) (fun W => CEnv w bs q g c cp A1 c1 s B2 W)
            (fun W hW => by
              obtain ⟨A', c', he, hr⟩ := own_reads hW.own
              cases he
              exact Kd.C_of_reads (enc := Value.int .i64) (d := (0 : Int)) hr)
            (fun x => wrong B2 x.toNat)
            (fun x hx W hW => by
              obtain ⟨j, rfl, hj, _⟩ := memL_in s 10 x hx
              rw [Int.toNat_natCast]
              refine (conset_calls j hj bs (q + 1) g c q cp B2 hW.bin W (cellAt hW.row) hW.frm (cellAt hW.vc) hW.blk.bytes).mono ?_
              rintro e W' ⟨rfl, hb⟩
              exact ⟨rfl, hW.step hb⟩) wr HE2.out)
          rw [hLl] at HC
          cases hb : bitOf s 0
          · have hr0 : r = 0 := by
              rcases HR.out with h | h
              · exact h
              · rw [hb] at h; cases h
            have hany : (memL s 10).any (fun x => wrong B2 x.toNat) = false := by
              rw [List.any_eq_false]
              intro x hx
              obtain ⟨j, rfl, hj, hjb⟩ := memL_in s 10 x hx
              have hj0 : j ≠ 0 := fun h => by rw [h, hb] at hjb; cases hjb
              rw [HR2.out hr0, Int.toNat_natCast, wrong_all hj0 hj]
              simp
            rw [hany] at HC
            have HBB := Aside0.mk hb
            clear hr0 hany hb
            go_wp2_with (go_at_call 48; (with_reducible refine HC.out.mono ?_); rintro e w5 ⟨rfl, he5⟩; have HE5 := Aside0.mk he5; clear he5)
            go_ret
            exact ⟨by rw [HBB.out]; rfl, HE5.out.below⟩
          · have hany : (memL s 10).any (fun x => wrong B2 x.toNat) = true := by
              rw [List.any_eq_true]
              exact ⟨0, memL_zero s hb, wrong_zero HE2.out.bin⟩
            rw [hany] at HC
            have HBB := Aside0.mk hb
            clear hany hb
            go_wp2_with (go_at_call 48; (with_reducible refine HC.out.mono ?_); rintro e w5 ⟨rfl, he5⟩; have HE5 := Aside0.mk he5; clear he5)
            go_roundg qq
            case measure => omega
            case rel => exact ⟨r + 1, B2, by go_num, by omega, ⟨.inr HBB.out⟩, ⟨fun h => absurd h (by omega)⟩, HE5⟩
    · obtain rfl : r = N := by omega
      have hb : bitOf s 0 = true := by
        rcases HR.out with h | h
        · omega
        · exact h
      have hd : decide ((r : Int) < (r : Int)) = false := decide_eq_false (by omega)
      go_wp2
      go_ret
      exact ⟨by rw [hb]; rfl, HEr.out.below⟩
end Go.Proofs.YtldohjlcckbfaaaGreatDoor.Hand
namespace Go.Proofs.YtldohjlcckbfaaaGreatDoor.Hand
open Go.RowKit Go.Proofs.YtldohjlcckbfaaaGreatDoorW.PrintWords Go.Proofs.YtldohjlcckbfaaaGreatDoorW.PrintLast Go.Proofs.YtldohjlcckbfaaaGreatDoorW.PrintMore
set_option linter.unusedVariables false
set_option linter.unusedSimpArgs false
open Go.Proofs.YtldohjlcckbfaaaGreatDoor.Pre
open TopWords
def signB (b : Bool) (j : Nat) : Bool := b && decide (j = 0)
def SignRow (w : World) (ga : Nat) (b : Bool) : Prop := ∀ j, j < 10 → w.cell? ⟨ga, j * 2, none⟩ = some (.bool false) ∧ w.cell? ⟨ga, j * 2 + 1, none⟩ = some (.bool (signB b j))
set_option maxHeartbeats 4000000 in
set_option maxRecDepth 100000 in
theorem leaves_calls (v0 : Value) (ga ca : Nat) (b : Bool) (s : Nat) (hs : s < 1024) (hb : b = true → bitOf s 0 = true) (w : World) (h : SignRow w ga b) :
    Calls Tryz.prog 197 #[v0, .slice (some ⟨ga, 0, none⟩) 10 ca, .int .i64 s] w fun e w' => e = .returned (.bool false) ∧ Below w.heap.size w w' := by
  have H := Aside0.mk h
  have HBt := Aside0.mk hb
  clear h hb
  go_enter Tryz.func197, Tryz.ntmps197
  go_wp2
  go_loopg [11] 10 (fun q v11 wr => ∃ k : Nat, v11 = .int .i64 k ∧ k + q = 10 ∧ Aside0 (Below w.heap.size w wr))
  case atStart => exact ⟨0, rfl, rfl, ⟨Below.refl _ _⟩⟩
  case round =>
    obtain ⟨k, rfl, hkq, HB⟩ := hrel
    by_cases hlt : k < 10
    · obtain ⟨q, rfl⟩ : ∃ q, gk = q + 1 := ⟨gk - 1, by omega⟩
      have hd : decide ((k : Int) < 10) = true := decide_eq_true (by omega)
      obtain ⟨c1, c2⟩ := H.out k hlt
      have d1 := pw_cell_below HB.out c1
      have d2 := pw_cell_below HB.out c2
      have HB1 : Aside0 (∀ x y : Bool, Below w.heap.size w (wr.alloc (Obj.cells #[.bool x, .bool y] 283))) := ⟨fun x y => HB.out.alloc HB.out.size _⟩
      have HS := Aside0.mk (show signB b k = (b && decide (k = 0)) from rfl)
      obtain ⟨sb, hsb⟩ : ∃ x, signB b k = x := ⟨_, rfl⟩
      rw [hsb] at d2 HS
      clear c1 c2 hsb
      cases sb
      · go_wp2
        go_roundg q
        case measure => omega
        case rel => exact ⟨k + 1, by go_num, by omega, ⟨HB1.out _ _⟩⟩
      · have hk0 : b = true ∧ k = 0 := by
          have := HS.out.symm
          simpa using this
        obtain ⟨hbt, rfl⟩ := hk0
        have hbit := HBt.out hbt
        have hx : bits .and .i64 (s : Int) 1 = 1 := by
          rw [show bits .and .i64 (s : Int) 1 = ((s % 2 : Nat) : Int) from and_bit ⟨s, hs⟩]
          unfold bitOf at hbit
          simp at hbit
          rw [hbit]; rfl
        clear hbit hbt
        go_wp2
        go_roundg q
        case measure => omega
        case rel => exact ⟨1, by go_num, by omega, ⟨HB1.out _ _⟩⟩
    · obtain rfl : k = 10 := by omega
      go_wp2
      go_ret
      exact ⟨rfl, HB.out⟩
end Go.Proofs.YtldohjlcckbfaaaGreatDoor.Hand
namespace Go.Proofs.YtldohjlcckbfaaaGreatDoor.Hand
open Go.RowKit Go.Proofs.YtldohjlcckbfaaaGreatDoorW.PrintWords Go.Proofs.YtldohjlcckbfaaaGreatDoorW.PrintLast Go.Proofs.YtldohjlcckbfaaaGreatDoorW.PrintMore
set_option linter.unusedVariables false
set_option linter.unusedSimpArgs false
open Go.Proofs.YtldohjlcckbfaaaGreatDoor.Pre
open TopWords
def signC (b : Bool) : Array Value := #[.bool false, .bool b, .bool false, .bool false, .bool false, .bool false, .bool false, .bool false, .bool false, .bool false, .bool false, .bool false, .bool false, .bool false, .bool false, .bool false, .bool false, .bool false, .bool false, .bool false]
theorem signC_row {w : World} {ga : Nat} {b : Bool} (h : w.heap[ga]? = some (.cells (signC b) 283 (0, 0))) : SignRow w ga b := by
  intro j hj
  rw [blk_cell h, blk_cell h]
  have : j = 0 ∨ j = 1 ∨ j = 2 ∨ j = 3 ∨ j = 4 ∨ j = 5 ∨ j = 6 ∨ j = 7 ∨ j = 8 ∨ j = 9 := by omega
  rcases this with rfl | rfl | rfl | rfl | rfl | rfl | rfl | rfl | rfl | rfl <;> simp [signC, signB]
theorem make_signs (w : World) : (Instr.makeSlice 249 (.int .i64 10) (.int .i64 10)).run Tryz.prog w = .ok (.slice (some ⟨w.heap.size, 0, none⟩) 10 10) (w.alloc (.cells (signC false) 283)) := by
  kernel_rfl
set_option maxHeartbeats 4000000 in
set_option maxRecDepth 100000 in
theorem visit_sign (bo bi go ga : Nat) (w : World) (h1 : w.cell? ⟨bo, 0, none⟩ = some (.slice (some ⟨go, 0, none⟩) 10 10)) (h2 : w.cell? ⟨bi, 0, none⟩ = some (.int .i64 0)) (h3 : w.cell? ⟨go, 0, none⟩ = some (.slice (some ⟨ga, 0, none⟩) 10 10)) (h4 : w.heap[ga]? = some (.cells (signC false) 283 (0, 0))) :
    Calls Tryz.prog 232 #[.int .i64 0, .bool true, .bool false, .pointer (some ⟨bo, 0, none⟩), .pointer (some ⟨bi, 0, none⟩)] w fun e w' => e = .returned (.tuple #[]) ∧ w'.heap[ga]? = some (.cells (signC true) 283 (0, 0)) ∧ Turn ga w w' := by
  have x0 : w.cell? ⟨ga, 0, none⟩ = some (.bool false) := by rw [blk_cell h4]; rfl
  have x1 : w.cell? ⟨ga, 1, none⟩ = some (.bool false) := by rw [blk_cell h4]; rfl
  have f0 := blk_frozen h4 0
  have f1 := blk_frozen h4 1
  have H4 := Aside0.mk h4
  clear h4
  go_enter Tryz.func232, Tryz.ntmps232
  go_wp2
  have k1 : (w.setCell ⟨ga, 1, none⟩ (.bool true)).heap[ga]? = some (.cells (signC true) 283 (0, 0)) := by rw [heap_setCell_same _ _ _ _ _ _ H4.out]; rfl
  have k2 : ((w.setCell ⟨ga, 1, none⟩ (.bool true)).setCell ⟨ga, 0, none⟩ (.bool false)).heap[ga]? = some (.cells (signC true) 283 (0, 0)) := by rw [heap_setCell_same _ _ _ _ _ _ k1]; rfl
  exact ⟨rfl, .tuple #[], by simp [results, Tryz.results232, go_sem], rfl, k2, ((Turn.of_below (p := ga) (Below.refl _ w)).set ⟨ga, 1, none⟩ (.inl rfl) _).set ⟨ga, 0, none⟩ (.inl rfl) _⟩
set_option maxHeartbeats 4000000 in
set_option maxRecDepth 100000 in
theorem const_letters (v : Value) (w : World) : Calls Tryz.prog 287 #[.int .u8 48, .bool false, .bool false, v] w fun e w' => e = .returned (.tuple #[]) ∧ w' = w := by
  go_enter Tryz.func287, Tryz.ntmps287
  go_wp2
  exact ⟨rfl, .tuple #[], by simp [results, Tryz.results287, go_sem], rfl, rfl⟩
set_option maxHeartbeats 4000000 in
set_option maxRecDepth 100000 in
theorem letter_letters (bo bi go ga : Nat) (w : World) (h1 : w.cell? ⟨bo, 0, none⟩ = some (.slice (some ⟨go, 0, none⟩) 10 10)) (h2 : w.cell? ⟨bi, 0, none⟩ = some (.int .i64 0)) (h3 : w.cell? ⟨go, 0, none⟩ = some (.slice (some ⟨ga, 0, none⟩) 10 10)) (h4 : w.heap[ga]? = some (.cells (signC false) 283 (0, 0))) :
    Calls Tryz.prog 289 #[.int .i64 0, .bool true, .bool false, .func (.func 232) #[] #[.pointer (some ⟨bo, 0, none⟩), .pointer (some ⟨bi, 0, none⟩)]] w fun e w' => e = .returned (.tuple #[]) ∧ w'.heap[ga]? = some (.cells (signC true) 283 (0, 0)) ∧ Turn ga w w' := by
  have HV := Aside0.mk (visit_sign bo bi go ga w h1 h2 h3 h4)
  clear h1 h2 h3 h4
  go_enter Tryz.func289, Tryz.ntmps289
  go_wp2_with (go_at_call 232; (with_reducible refine HV.out.mono ?_); rintro e w1 ⟨rfl, h1, h2⟩; have H1 := Aside0.mk (And.intro h1 h2); clear h1 h2)
  exact ⟨rfl, .tuple #[], by simp [results, Tryz.results289, go_sem], rfl, H1.out.1, H1.out.2⟩
set_option maxHeartbeats 4000000 in
set_option maxRecDepth 100000 in
theorem not_letters (bo bi go ga : Nat) (w : World) (h1 : w.cell? ⟨bo, 0, none⟩ = some (.slice (some ⟨go, 0, none⟩) 10 10)) (h2 : w.cell? ⟨bi, 0, none⟩ = some (.int .i64 0)) (h3 : w.cell? ⟨go, 0, none⟩ = some (.slice (some ⟨ga, 0, none⟩) 10 10)) (h4 : w.heap[ga]? = some (.cells (signC false) 283 (0, 0))) :
    Calls Tryz.prog 291 #[.agg #[gL], .bool false, .bool false, .func (.func 232) #[] #[.pointer (some ⟨bo, 0, none⟩), .pointer (some ⟨bi, 0, none⟩)]] w fun e w' => e = .returned (.tuple #[]) ∧ w'.heap[ga]? = some (.cells (signC true) 283 (0, 0)) ∧ Turn ga w w' := by
  have hm : ∀ w v, (method 429 268 v "pomade/truth.letters").run Tryz.prog w = .ok (289, v) w := fun _ _ => by kernel_rfl
  have hb := below_alloc (Below.refl _ w) (Obj.cells #[gL] 270)
  have HB := Aside0.mk hb
  have HL := Aside0.mk (letter_letters bo bi go ga _ (pw_cell_below hb h1) (pw_cell_below hb h2) (pw_cell_below hb h3) (blk_below h4 hb))
  have HL2 := Aside0.mk (letter_letters bo bi go ga _ h1 h2 h3 h4)
  clear h1 h2 h3 h4 hb
  go_enter Tryz.func291, Tryz.ntmps291
  go_wp2_with (go_at_call 289; (with_reducible refine HL.out.mono ?_); rintro e w1 ⟨rfl, h1, h2⟩; have H1 := Aside0.mk (And.intro h1 ((Turn.of_below (p := ga) HB.out).trans h2)); clear h1 h2)
  exact ⟨rfl, .tuple #[], by simp [results, Tryz.results291, go_sem], rfl, H1.out.1, H1.out.2⟩
end Go.Proofs.YtldohjlcckbfaaaGreatDoor.Hand
