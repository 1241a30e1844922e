import Derived.Test.YtcjbnonjhahakaaDoorProg
import Derived.Below
import Derived.Deep.Draws
import Derived.Deep.AppendLies
import Derived.Maps.AppendAt
import Derived.OwnWalk
import Derived.Laws.BytesArg
import Derived.Laws.MakeOwn
import Derived.Laws.OwnMore
import Derived.Deep.OwnRows
import Derived.Tactics
import Derived.Lib.ConvBytes
import Derived.Laws.Slices
import Derived.WalkKit
import Derived.KernelRfl
import Derived.RowKit3
import Derived.Deep.LoopGhost
import Derived.Deep.QuietTactic
import Derived.BigQuiet
import Derived.WideLaws
import Derived.Deep.DeepCutAuto
import Derived.Deep.CutBlock
import Derived.Deep.RegionHeld3
import Derived.Laws.Rows
import Derived.Lib.AppendStr
import Derived.ArgAppend
import Derived.Laws.IdiomCopy
import Derived.OrdersHeld
import Derived.Laws.BitsLemmas
import Derived.RowKit
import Derived.Test.YtcjbnonjhahakaaDoorWWords
import Derived.Test.YtcjbnonjhahakaaDoorWLast
import Derived.Test.YtcjbnonjhahakaaDoorWTab
import Derived.Test.YtcjbnonjhahakaaDoorWFour
import Derived.Test.YtcjbnonjhahakaaDoorWQPut
import Derived.Test.YtcjbnonjhahakaaDoorWApart
import Derived.Test.YtcjbnonjhahakaaDoorWArr
import Derived.Test.YtcjbnonjhahakaaDoorWZeros
import Derived.Test.YtcjbnonjhahakaaDoorWFoot
import Derived.Test.YtcjbnonjhahakaaDoorWKept
import Derived.Test.YtcjbnonjhahakaaDoorWShare
import Derived.Test.YtcjbnonjhahakaaDoorWN
import Derived.Test.YtcjbnonjhahakaaDoorWFootNe
import Derived.Test.YtcjbnonjhahakaaDoorWAt
import Derived.Test.YtcjbnonjhahakaaDoorWEqStruct
import Derived.Test.YtcjbnonjhahakaaDoorWRepsOne
import Derived.Test.YtcjbnonjhahakaaDoorWInv
import Derived.Test.YtcjbnonjhahakaaDoorWInvWords
import Derived.Test.YtcjbnonjhahakaaDoorWGuard
import Derived.Test.YtcjbnonjhahakaaDoorWNEv
import Derived.Test.YtcjbnonjhahakaaDoorWMore
import Derived.Test.YtcjbnonjhahakaaDoorEvE
namespace Go.Proofs.YtcjbnonjhahakaaDoor.Hand
open Go.RowKit Go.Proofs.YtcjbnonjhahakaaDoorW.PrintWords Go.Proofs.YtcjbnonjhahakaaDoorW.PrintLast Go.Proofs.YtcjbnonjhahakaaDoorW.PrintMore
set_option linter.unusedVariables false
set_option linter.unusedSimpArgs false

/-! The reference's Makers and Shortest. -/
open Go.Shelf Go.Lib Go.Sort Go.Maps Go.Proofs.YtcjbnonjhahakaaDoor.Math Go.Proofs.YtcjbnonjhahakaaDoor.Goes Go.Proofs.YtcjbnonjhahakaaDoor.Bef Go.Proofs.YtcjbnonjhahakaaDoor.Fir Go.Proofs.YtcjbnonjhahakaaDoor.Print Go.Proofs.YtcjbnonjhahakaaDoor.Pure
theorem addr_add0 {a : Addr} (h : (a.add 0).spot = none) : a.add 0 = a := by
  simp [Addr.add]
theorem own_of_RS {w : World} {base : Nat} {v : Value} {l : List ByteArray} (h : Kd.R Kd.string 9 w base (fun _ => True) v l) : w.ownsRow base 9 1 v l.length (l.map Value.string) := by
  obtain ⟨_, inner, hown, hlen, hk⟩ := h
  have hs : Kd.string.sz = 1 := rfl
  rw [hs, Nat.mul_one] at hlen
  have e : inner = l.map Value.string := by
    apply List.ext_getElem (by rw [List.length_map]; exact hlen)
    intro j h1 h2
    have hj : j < l.length := by omega
    have := hk j l[j] (List.getElem?_eq_getElem hj)
    simp [Kd.string, Kd.scalar] at this
    have e2 : (List.take 1 (List.drop j inner))[0]? = some (.string l[j]) := by rw [this]; rfl
    rw [List.getElem?_take, if_pos (by decide), List.getElem?_drop, Nat.add_zero, List.getElem?_eq_getElem h1] at e2
    rw [List.getElem_map]
    exact Option.some.inj e2
  rw [e] at hown
  exact hown
theorem sorted_R {w : World} {base : Nat} {v : Value} {l : List ByteArray} (hR : Kd.R Kd.string 9 w base (fun _ => True) v l) (hl : l.length ≤ 1000000000000) (hb : base ≤ w.heap.size) :
    Calls Tryd.prog 59 #[v] w fun e w' => ∃ v', e = .returned v' ∧ Kd.R Kd.string 9 w' base (fun _ => True) v' (sortB l) ∧ Below w.heap.size w w' := by
  have hown := own_of_RS hR
  obtain ⟨A, c, rfl⟩ := Kd.R_slice hR
  obtain ⟨_, h2, h3⟩ := Kd.R_reads' hR
  refine (sorted_main l.length l A c w (Nat.le_refl _) hl h2 h3).mono ?_
  rintro e w' ⟨A', c', rfl, hc', hC', hB', hcase⟩
  refine ⟨_, rfl, ?_, hB'⟩
  rcases hcase with ⟨hlt, rfl, rfl⟩ | ho
  · rw [sortB_one hlt]
    exact own_RS (pw_own_below hown hB') rfl
  · exact own_RS (own_less ho hb) (sortB_length l)
theorem sortB_map (W : List (List UInt8)) : sortB (W.map B) = (sortW W).map B := by
  unfold sortB
  rw [List.map_map]
  have e : (L ∘ B) = id := by funext x; exact L_B x
  rw [e, List.map_id]
def pomaderef08_Makers.f (a0 : ByteArray) (a1 : Int) : Option (List ByteArray × Int) := parrot_Makers.f a0 a1
theorem mk_word (a0 : ByteArray) (h : wordE (L a0) = 0) (n : Nat) (hn : n ≤ 8) (w : World) : Calls Tryd.prog 60 #[.string a0, .int .i64 (n : Int)] w fun e w' => ∃ v0_ : Value, e = .returned (v0_) ∧ Kd.R Kd.string 9 w' w.heap.size (fun _ => True) v0_ ((mkL n (L a0)).map B) ∧ Below w.heap.size w w' := by
  have hw := wordE_ok.1 h
  obtain ⟨k, hk⟩ := Ev.rounds (ev_makers n (L a0) hn (by omega))
  have e : mkZ n (L a0) = mkL n (L a0) := by unfold mkZ; rw [if_neg hw.2.2]
  rw [B_L, e] at hk
  exact pomaderef08_makers.calls k a0 (n : Int) _ w hk
theorem mk_len (n : Nat) (hn : n ≤ 8) (x : List UInt8) : ((mkL n x).map B).length ≤ 1000000000000 := by
  have h1 := mkL_many n x
  have h2 : 14 ^ n ≤ 14 ^ 8 := Nat.pow_le_pow_right (by decide) hn
  rw [List.length_map]
  omega
set_option maxHeartbeats 1000000 in
set_option maxRecDepth 100000 in
theorem pomaderef08_Makers.calls (a0 : ByteArray) (a1 : Int) (r1 : List ByteArray) (r2 : Int) (w : World) (h : pomaderef08_Makers.f a0 a1 = some (r1, r2)) :
    Calls Tryd.prog 37 #[.string a0, .int .i64 a1] w fun e w' => ∃ v0_ : Value, e = .returned (.tuple #[v0_, .int .i64 r2]) ∧ Kd.R Kd.string 9 w' w.heap.size (fun _ => True) v0_ r1 ∧ Below w.heap.size w w' := by
  unfold pomaderef08_Makers.f parrot_Makers.f at h
  obtain ⟨k0, hk0⟩ := Ev.rounds (ev_IsWord a0)
  have hwc := fun w => pomaderef08_IsWord.calls k0 a0 (wordE (L a0)) w hk0
  clear hk0
  by_cases c : wordE (L a0) = 0
  · rw [if_neg (show ¬ wordE (L a0) ≠ 0 by simpa using c)] at h
    rw [c] at hwc
    by_cases c8 : a1 < 1 ∨ a1 > 8
    · rw [if_pos c8] at h
      simp only [Option.some.injEq, Prod.mk.injEq] at h
      obtain ⟨rfl, rfl⟩ := h
      rcases c8 with c8 | c8
      · go_enter Tryd.func37, Tryd.ntmps37
        go_wp2_with (go_at_call 27; refine (hwc _).mono ?_; rintro e w0 ⟨rfl, ⟨nd, rfl⟩⟩)
        go_ret2
        exact ⟨_, rfl, Kd.R_nil _ _ _ _ _, pw_below_drewN (Below.refl _ _) _⟩
      · have c9 : ¬ a1 < 1 := by omega
        go_enter Tryd.func37, Tryd.ntmps37
        go_wp2_with (go_at_call 27; refine (hwc _).mono ?_; rintro e w0 ⟨rfl, ⟨nd, rfl⟩⟩)
        go_ret2
        exact ⟨_, rfl, Kd.R_nil _ _ _ _ _, pw_below_drewN (Below.refl _ _) _⟩
    · rw [if_neg c8] at h
      simp only [Option.some.injEq, Prod.mk.injEq] at h
      obtain ⟨rfl, rfl⟩ := h
      have c1 : ¬ a1 < 1 := fun q => c8 (.inl q)
      have c2 : ¬ a1 > 8 := fun q => c8 (.inr q)
      clear c8
      obtain ⟨n, rfl⟩ : ∃ n : Nat, a1 = (n : Int) := ⟨a1.toNat, by omega⟩
      rw [Int.toNat_natCast]
      have hmk := fun w => mk_word a0 c n (by omega) w
      have HML := Aside0.mk (mk_len n (by omega) (L a0))
      have HSB := Aside0.mk (sortB_map (mkL n (L a0)))
      go_enter Tryd.func37, Tryd.ntmps37
      go_wp2_with (first | (go_at_call 27; refine (hwc _).mono ?_; rintro e w0 ⟨rfl, ⟨nd, rfl⟩⟩) | (go_at_call 60; go_loud (refine (hmk _).mono ?_; rintro e w1 ⟨v1, rfl, hR1, hb1⟩; have HR1 := Aside0.mk hR1; have HB1 := Aside0.mk hb1; clear hR1 hb1)) | (go_at_call 59; go_loud (refine (sorted_R HR1.out HML.out HB1.out.size).mono ?_; rintro e w2 ⟨v2, rfl, hR2, hb2⟩; have HR2 := Aside0.mk hR2; have HB2 := Aside0.mk hb2; clear hR2 hb2)))
      go_ret2
      rw [HSB.out] at HR2
      exact ⟨_, rfl, HR2.out, (pw_below_drewN (Below.refl _ _) _).trans (HB1.out.trans (HB2.out.mono HB1.out.size))⟩
  · rw [if_pos c] at h
    simp only [Option.some.injEq, Prod.mk.injEq] at h
    obtain ⟨rfl, rfl⟩ := h
    obtain ⟨e1, he1⟩ : ∃ e1, wordE (L a0) = e1 := ⟨_, rfl⟩
    rw [he1] at hwc c ⊢
    have c' : (e1 != 0) = true := bne_iff_ne.2 c
    go_enter Tryd.func37, Tryd.ntmps37
    go_wp2_with (go_at_call 27; refine (hwc _).mono ?_; rintro e w0 ⟨rfl, ⟨nd, rfl⟩⟩)
    go_ret2
    exact ⟨_, rfl, Kd.R_nil _ _ _ _ _, pw_below_drewN (Below.refl _ _) _⟩
def shortS (a0 : ByteArray) : ByteArray × Int := if wordE (L a0) ≠ 0 then (⟨#[]⟩, wordE (L a0)) else match sortW (mkL 8 (L a0)) with
  | [] => (⟨#[]⟩, 10)
  | x :: _ => (B x, 0)
def pomaderef08_Shortest.f (a0 : ByteArray) : Option (ByteArray × Int) := some (shortS a0)
set_option maxHeartbeats 1000000 in
set_option maxRecDepth 100000 in
theorem pomaderef08_Shortest.calls (a0 : ByteArray) (r1 : ByteArray) (r2 : Int) (w : World) (h : pomaderef08_Shortest.f a0 = some (r1, r2)) :
    Calls Tryd.prog 39 #[.string a0] w fun e w' => e = .returned (.tuple #[.string r1, .int .i64 r2]) ∧ Below w.heap.size w w' := by
  unfold pomaderef08_Shortest.f at h
  have h := Option.some.inj h
  unfold shortS at h
  obtain ⟨k0, hk0⟩ := Ev.rounds (ev_IsWord a0)
  have hwc := fun w => pomaderef08_IsWord.calls k0 a0 (wordE (L a0)) w hk0
  clear hk0
  by_cases c : wordE (L a0) = 0
  · rw [if_neg (show ¬ wordE (L a0) ≠ 0 by simpa using c)] at h
    rw [c] at hwc
    have hmk := fun w => mk_word a0 c 8 (by omega) w
    have HML := Aside0.mk (mk_len 8 (by omega) (L a0))
    have hsb := sortB_map (mkL 8 (L a0))
    cases hs : sortW (mkL 8 (L a0)) with
    | nil =>
      rw [hs] at h hsb
      obtain ⟨rfl, rfl⟩ := (Prod.mk.injEq _ _ _ _).mp h
      have HSB := Aside0.mk hsb
      clear hs hsb
      go_enter Tryd.func39, Tryd.ntmps39
      go_wp2_with (first | (go_at_call 27; refine (hwc _).mono ?_; rintro e w0 ⟨rfl, ⟨nd, rfl⟩⟩) | (go_at_call 60; go_loud (refine (hmk _).mono ?_; rintro e w1 ⟨v1, rfl, hR1, hb1⟩; have HR1 := Aside0.mk hR1; have HB1 := Aside0.mk hb1; clear hR1 hb1)) | (go_at_call 59; go_loud (refine (sorted_R HR1.out HML.out HB1.out.size).mono ?_; rintro e w2 ⟨v2, rfl, hR2, hb2⟩; rw [HSB.out] at hR2; obtain ⟨A2, c2, rfl⟩ := Kd.R_slice hR2; have HB2 := Aside0.mk hb2; clear hR2 hb2)))
      go_ret2
      exact ⟨rfl, (pw_below_drewN (Below.refl _ _) _).trans (HB1.out.trans (HB2.out.mono HB1.out.size))⟩
    | cons x t =>
      rw [hs] at h hsb
      obtain ⟨rfl, rfl⟩ := (Prod.mk.injEq _ _ _ _).mp h
      have HSB := Aside0.mk hsb
      obtain ⟨n, hn⟩ : ∃ n, (List.map B (x :: t)).length = n := ⟨_, rfl⟩
      have hn1 : 1 ≤ n := by rw [← hn]; simp
      have hn0 : ((n : Int) == 0) = false := beq_eq_false_iff_ne.2 (by omega)
      obtain ⟨bx, hbx⟩ : ∃ bx, B x = bx := ⟨_, rfl⟩
      have hrd : rdOf ByteArray.empty (List.map B (x :: t)) 0 = bx := by rw [← hbx]; rfl
      rw [hbx]
      have HN := Aside0.mk (And.intro hn hrd)
      clear hs hsb hn hrd hbx
      go_enter Tryd.func39, Tryd.ntmps39
      go_wp2_with (first | (go_at_call 27; refine (hwc _).mono ?_; rintro e w0 ⟨rfl, ⟨nd, rfl⟩⟩) | (go_at_call 60; go_loud (refine (hmk _).mono ?_; rintro e w1 ⟨v1, rfl, hR1, hb1⟩; have HR1 := Aside0.mk hR1; have HB1 := Aside0.mk hb1; clear hR1 hb1)) | (go_at_call 59; go_loud (refine (sorted_R HR1.out HML.out HB1.out.size).mono ?_; rintro e w2 ⟨v2, rfl, hR2, hb2⟩; rw [HSB.out] at hR2; obtain ⟨A2, c2, rfl⟩ := Kd.R_slice hR2; have hC2 := (Kd.R_reads' hR2).2.2; rw [HN.out.1] at hC2 ⊢; obtain ⟨ad, rfl, hx0⟩ := Kd.at_string hC2 0 (by omega) (by omega); rw [HN.out.2] at hx0; have hx1 : w2.cell? (ad.add 0) = some (.string bx) := hx0; have hx2 := hx1; rw [addr_add0 (World.cell?_spot hx1)] at hx2; have HB2 := Aside0.mk hb2; clear hR2 hb2 hC2)))
      go_ret2
      exact ⟨rfl, (pw_below_drewN (Below.refl _ _) _).trans (HB1.out.trans (HB2.out.mono HB1.out.size))⟩
  · rw [if_pos c] at h
    obtain ⟨rfl, rfl⟩ := (Prod.mk.injEq _ _ _ _).mp h
    obtain ⟨e1, he1⟩ : ∃ e1, wordE (L a0) = e1 := ⟨_, rfl⟩
    rw [he1] at hwc c ⊢
    have c' : (e1 != 0) = true := bne_iff_ne.2 c
    go_enter Tryd.func39, Tryd.ntmps39
    go_wp2_with (go_at_call 27; refine (hwc _).mono ?_; rintro e w0 ⟨rfl, ⟨nd, rfl⟩⟩)
    go_ret2
    exact ⟨rfl, pw_below_drewN (Below.refl _ _) _⟩

end Go.Proofs.YtcjbnonjhahakaaDoor.Hand
