import Derived.Test.YtcjbnonjhahakaaDoorProg
import Derived.Below
import Derived.Deep.Draws
import Derived.Deep.AppendLies
import Derived.Maps.AppendAt
import Derived.OwnWalk
import Derived.Laws.BytesArg
import Derived.Laws.MakeOwn
import Derived.Laws.OwnMore
import Derived.Deep.OwnRows
import Derived.Tactics
import Derived.Lib.ConvBytes
import Derived.Laws.Slices
import Derived.WalkKit
import Derived.KernelRfl
import Derived.RowKit3
import Derived.Deep.LoopGhost
import Derived.Deep.QuietTactic
import Derived.BigQuiet
import Derived.WideLaws
import Derived.Deep.DeepCutAuto
import Derived.Deep.CutBlock
import Derived.Deep.RegionHeld3
import Derived.Laws.Rows
import Derived.Lib.AppendStr
import Derived.ArgAppend
import Derived.Laws.IdiomCopy
import Derived.OrdersHeld
import Derived.Laws.BitsLemmas
import Derived.RowKit
import Derived.Test.YtcjbnonjhahakaaDoorWWords
import Derived.Test.YtcjbnonjhahakaaDoorWLast
import Derived.Test.YtcjbnonjhahakaaDoorWTab
import Derived.Test.YtcjbnonjhahakaaDoorWFour
import Derived.Test.YtcjbnonjhahakaaDoorWQPut
import Derived.Test.YtcjbnonjhahakaaDoorWApart
import Derived.Test.YtcjbnonjhahakaaDoorWArr
import Derived.Test.YtcjbnonjhahakaaDoorWZeros
import Derived.Test.YtcjbnonjhahakaaDoorWFoot
import Derived.Test.YtcjbnonjhahakaaDoorWKept
import Derived.Test.YtcjbnonjhahakaaDoorWShare
import Derived.Test.YtcjbnonjhahakaaDoorWN
import Derived.Test.YtcjbnonjhahakaaDoorWFootNe
import Derived.Test.YtcjbnonjhahakaaDoorWAt
import Derived.Test.YtcjbnonjhahakaaDoorWEqStruct
import Derived.Test.YtcjbnonjhahakaaDoorWRepsOne
import Derived.Test.YtcjbnonjhahakaaDoorWInv
import Derived.Test.YtcjbnonjhahakaaDoorWInvWords
import Derived.Test.YtcjbnonjhahakaaDoorWGuard
import Derived.Test.YtcjbnonjhahakaaDoorWNEv
import Derived.Test.YtcjbnonjhahakaaDoorWMore
import Derived.Test.YtcjbnonjhahakaaDoorHandG
import Derived.Maps.RangeWalk
namespace Go.Proofs.YtcjbnonjhahakaaDoor.Hand
open Go.RowKit Go.Proofs.YtcjbnonjhahakaaDoorW.PrintWords Go.Proofs.YtcjbnonjhahakaaDoorW.PrintLast Go.Proofs.YtcjbnonjhahakaaDoorW.PrintMore
set_option linter.unusedVariables false
set_option linter.unusedSimpArgs false

/-! makers: the closure that calls itself. -/
open Go.Maps Go.Proofs.YtcjbnonjhahakaaDoor.Math Go.Proofs.YtcjbnonjhahakaaDoor.Goes Go.Proofs.YtcjbnonjhahakaaDoor.Bef
theorem mx_nat (a b : Nat) : mx (a : Int) (b : Int) = ((max a b : Nat) : Int) := by unfold mx; split <;> omega
theorem hopeful_is : ∀ (d o n : Nat), o + d ≤ 100 → n ≤ 100000 → parrot_hopeful.l0 (d + 1) (o : Int) (n : Int) ((o + d : Nat) : Int) = some (hope d n)
  | 0, o, n, h1, h2 => by
    rw [parrot_hopeful.l0, hope, if_neg (by rw [wq (by omega)]; omega)]
  | d + 1, o, n, h1, h2 => by
    have ih := hopeful_is d (o + 1) (n / 2) (by omega) (by omega)
    have e1 : wrap64 ((o : Int) + 1) = ((o + 1 : Nat) : Int) := by rw [wq (by omega)]; omega
    have e2 : wrap64 (Int.tdiv (n : Int) 2) = ((n / 2 : Nat) : Int) := by
      rw [Int.tdiv_eq_ediv_of_nonneg (by omega), wq (by omega)]; omega
    have e3 : mx ((n / 2 : Nat) : Int) 1 = ((max (n / 2) 1 : Nat) : Int) := mx_nat _ 1
    have e4 : wrap64 (((o + 1 : Nat) : Int) + 1) = ((o + 2 : Nat) : Int) := by rw [wq (by omega)]; omega
    have e5 : wrap64 (((o + 2 : Nat) : Int) + ((max (n / 2) 1 : Nat) : Int)) = ((o + 2 + max (n / 2) 1 : Nat) : Int) := by rw [wq (by omega)]; omega
    rw [parrot_hopeful.l0, hope, e1, e2, e3, e4, e5, wq (n := (o : Int) + 3) (by omega)]
    by_cases c1 : d + 1 < 3
    · rw [if_neg (by omega), if_pos c1]
    · rw [if_pos (by omega), if_neg c1]
      by_cases c2 : max (n / 2) 1 + 2 ≤ d + 1
      · rw [if_pos (by omega), if_pos c2]
      · rw [if_neg (by omega), if_neg c2]
        rw [show o + (d + 1) = o + 1 + d by omega]
        exact ih
theorem ranges_move {H : Type} {P : Program} {k : TypeId} {R : Value → Option (DataW H × List MemPlace)} {w w' : World} {b r n : Nat} {D : DataW H} {left : Lit → Bool} {cnt : Nat} (h : w.ranges P k R b r n D left cnt) (hb : w'.heap[b]? = w.heap[b]?) (hr : w'.heap[r]? = w.heap[r]?) : w'.ranges P k R b r n D left cnt := by
  obtain ⟨es, clock, since, seen, c0, h1, h2, h3, h4, h5, h6⟩ := h
  exact ⟨es, clock, since, seen, c0, hb.trans h1, h2, h3, h4, hr.trans h5, h6⟩
theorem ranges_lt {H : Type} {P : Program} {k : TypeId} {R : Value → Option (DataW H × List MemPlace)} {w : World} {b r n : Nat} {D : DataW H} {left : Lit → Bool} {cnt : Nat} (h : w.ranges P k R b r n D left cnt) : b < w.heap.size ∧ r < w.heap.size := by
  obtain ⟨es, clock, since, seen, c0, h1, h2, h3, h4, h5, h6⟩ := h
  exact ⟨(Array.getElem?_eq_some_iff.1 h1).1, (Array.getElem?_eq_some_iff.1 h5).1⟩
/-- What a range stands on is no list and no cell. -/
theorem ranges_obj {H : Type} {P : Program} {k : TypeId} {R : Value → Option (DataW H × List MemPlace)} {w : World} {b r n : Nat} {D : DataW H} {left : Lit → Bool} {cnt : Nat} (h : w.ranges P k R b r n D left cnt) : (∀ cs t f, w.heap[b]? ≠ some (.cells cs t f)) ∧ (∀ cs t f, w.heap[r]? ≠ some (.cells cs t f)) := by
  obtain ⟨es, clock, since, seen, c0, h1, h2, h3, h4, h5, h6⟩ := h
  exact ⟨fun cs t f e => (by rw [h1] at e; cases e), fun cs t f e => (by rw [h5] at e; cases e)⟩
theorem ranges_kp {H : Type} {P : Program} {k : TypeId} {R : Value → Option (DataW H × List MemPlace)} {w0 w w' : World} {cl cv : Nat} {long : Int} {v v' : Value} {l : List ByteArray} {b r n : Nat} {D : DataW H} {left : Lit → Bool} {cnt : Nat} (h : w.ranges P k R b r n D left cnt) (hS : MkSt w0 cl cv long w v l) (hk : MkKp w0.heap.size w v w' v') : w'.ranges P k R b r n D left cnt := by
  have h1 := ranges_lt h
  have h2 := ranges_obj h
  refine ranges_move h (hk.block b h1.1 (fun e => h2.1 _ _ _ (e ▸ hS.b0)) fun e => ?_) (hk.block r h1.2 (fun e => h2.2 _ _ _ (e ▸ hS.b0)) fun e => ?_)
  · obtain ⟨cells, hh⟩ := own_typed hS.own b e
    exact h2.1 _ _ _ hh
  · obtain ⟨cells, hh⟩ := own_typed hS.own r e
    exact h2.2 _ _ _ hh
theorem opsD_has {kl : Lit} (h : Maps.has opsD kl = true) (x : Int) (hk : kl = .int .i32 x) : ∃ c, c ∈ five ∧ x = (c.toNat : Int) := by
  subst hk
  have h : (51 : Int) = x ∨ (52 : Int) = x ∨ (53 : Int) = x ∨ (54 : Int) = x ∨ (55 : Int) = x := by simpa [Maps.has, opsD, Lit.sameKey] using h
  rcases h with h | h | h | h | h
  · exact ⟨51, by decide, h.symm⟩
  · exact ⟨52, by decide, h.symm⟩
  · exact ⟨53, by decide, h.symm⟩
  · exact ⟨54, by decide, h.symm⟩
  · exact ⟨55, by decide, h.symm⟩
theorem MkSt.iter {w0 w w' : World} {cl cv r : Nat} {long : Int} {v : Value} {l : List ByteArray} (h : MkSt w0 cl cv long w v l) (hg : w.grownBy w' (some r)) (hr0 : w0.heap.size + 4 ≤ r) (hr : ∀ cs t f, w.heap[r]? ≠ some (.cells cs t f)) : MkSt w0 cl cv long w' v l where
  below := h.below.grown hg h.below.size (fun j hj => by cases hj; omega)
  lcl := h.lcl
  lcv := h.lcv
  b0 := (hg.block _ (Array.getElem?_eq_some_iff.1 h.b0).1 (fun e => by cases e; omega)).trans h.b0
  b1 := (hg.block _ (Array.getElem?_eq_some_iff.1 h.b1).1 (fun e => by have := h.lcl; cases e; omega)).trans h.b1
  b2 := (hg.block _ (Array.getElem?_eq_some_iff.1 h.b2).1 (fun e => by have := h.lcv; cases e; omega)).trans h.b2
  b3 := (hg.block _ (Array.getElem?_eq_some_iff.1 h.b3).1 (fun e => by cases e; omega)).trans h.b3
  own := own_move h.own (fun k hk => by
    obtain ⟨cells, hh⟩ := own_typed h.own k hk
    exact hg.block _ (Array.getElem?_eq_some_iff.1 hh).1 (fun e => by cases e; exact hr _ _ _ hh))
theorem MkKp.iter {co r : Nat} {w w1 w2 : World} {v v1 : Value} (h : MkKp co w v w1 v1) (hg : w1.grownBy w2 (some r)) (hr : w.heap.size ≤ r) : MkKp co w v w2 v1 where
  size := Nat.le_trans h.size hg.size
  block := fun j hj hn ho => (hg.block j (by have := h.size; omega) (fun e => by cases e; omega)).trans (h.block j hj hn ho)
  own := h.own
theorem key_same (c d : UInt8) : Lit.sameKey (.int .i32 (c.toNat : Int)) (.int .i32 (d.toNat : Int)) = (c == d) := by
  by_cases h : c = d
  · subst h; simp [Lit.sameKey]
  · rw [beq_eq_false_iff_ne.2 h]
    simp [Lit.sameKey]
    exact fun e => h (UInt8.toNat_inj.1 (Int.ofNat.inj e))
theorem has_five {c : UInt8} (h : c ∈ five) : Maps.has opsD (.int .i32 (c.toNat : Int)) = true := by
  rcases five_cases h with rfl | rfl | rfl | rfl | rfl <;> rfl
theorem flatMap_congr' {α β : Type} {f g : α → List β} {l : List α} (h : ∀ a ∈ l, f a = g a) : l.flatMap f = l.flatMap g := by
  induction l with
  | nil => rfl
  | cons a l ih => rw [List.flatMap_cons, List.flatMap_cons, h a (by simp), ih (fun b hb => h b (by simp [hb]))]
theorem callB' {c : UInt8} (hc : isOp c = true) (x : List UInt8) (hx : x.length ≤ 100000) (w : World) :
    Calls Tryd.prog (fB c) #[.string (B x)] w fun e w' => ∃ p cp, e = .returned (.slice p (befores c x).length cp) ∧ ((befores c x).length = 0 ∨ ∃ g cells, p = some ⟨g, 0, none⟩ ∧ w.heap.size ≤ g ∧ w'.heap[g]? = some (.cells cells 9) ∧ ∀ (i : Nat) b, (befores c x)[i]? = some b → cells[i]? = some (.string (B b))) ∧ Below w.heap.size w w' := by
  refine (callB hc x hx w).mono ?_
  rintro e w' ⟨v, rfl, hR, hb⟩
  obtain ⟨p, cp, rfl, hf⟩ := RS_form hR
  rw [List.length_map] at hf ⊢
  refine ⟨p, cp, rfl, hf.imp id ?_, hb⟩
  rintro ⟨g, cells, h1, h2, h3, h4⟩
  refine ⟨g, cells, h1, h2, h3, fun i b hi => h4 i (B b) ?_⟩
  rw [List.getElem?_map, hi]; rfl
theorem manyB_le (c : UInt8) : manyB c ≤ 9 := by unfold manyB; split <;> omega
theorem F_len {F : UInt8 → List ByteArray} {x o : List UInt8} {m : Nat} (hF : ∀ c, F c = (((befores c x).flatMap fun b => (mkL m b).map (c :: ·)).map (o ++ ·)).map B) (p : UInt8 → Bool) : (five.flatMap fun c => if p c = true then [] else F c).length ≤ 13 * 14 ^ m := by
  have hb : ∀ c ∈ five, (if p c = true then [] else F c).length ≤ manyB c * 14 ^ m := fun c hc => by
    split
    · simp
    · rw [hF, List.length_map, List.length_map]
      exact Nat.le_trans (flatMap_len _ (14 ^ m) _ (fun b _ => by rw [List.length_map]; exact mkL_many m b)) (Nat.mul_le_mul_right _ (befores_many hc x))
  have h51 := hb 51 (by decide)
  have h52 := hb 52 (by decide)
  have h53 := hb 53 (by decide)
  have h54 := hb 54 (by decide)
  have h55 := hb 55 (by decide)
  rw [show manyB 51 = 1 from rfl] at h51
  rw [show manyB 52 = 1 from rfl] at h52
  rw [show manyB 53 = 1 from rfl] at h53
  rw [show manyB 54 = 9 from rfl] at h54
  rw [show manyB 55 = 1 from rfl] at h55
  have hf : ∀ f : UInt8 → List ByteArray, (five.flatMap f).length = (f 51).length + ((f 52).length + ((f 53).length + ((f 54).length + (f 55).length))) := fun f => by
    simp [five, List.flatMap_cons]
  rw [hf]
  omega
set_option maxHeartbeats 4000000 in
set_option maxRecDepth 100000 in
theorem makers1 (w0 : World) (hO : Ops w0) (cl cv : Nat) (long : Nat) (hlong : long ≤ 8) (m : Nat) : ∀ (o x : List UInt8) (l : List ByteArray) (v : Value) (w : World), o.length + m = long → x ≠ [] → x.length + m ≤ 300 → l.length + 25 ^ m ≤ 1000000000000 → MkSt w0 cl cv (long : Int) w v l →
    Calls Tryd.prog 63 #[.string (B o), .string (B x), .pointer (some ⟨cl, 0, none⟩), .pointer (some ⟨cv, 0, none⟩), .pointer (some ⟨w0.heap.size + 3, 0, none⟩)] w fun e w' => e = .returned (.tuple #[]) ∧ ∃ v' l', l'.Perm (l ++ ((mkL m x).map (o ++ ·)).map B) ∧ MkSt w0 cl cv (long : Int) w' v' l' ∧ MkKp w0.heap.size w v w' v' := by
  induction m with
  | zero =>
    intro o x l v w hm hx hxl hl hS
    have hhp : ∀ w, Calls Tryd.prog 64 #[.int .i64 (o.length : Int), .int .i64 (x.length : Int), .int .i64 (long : Int)] w fun e w' => e = .returned (.bool false) ∧ Below w.heap.size w w' := fun w => by
      have := hopeful_is 0 o.length x.length (by omega) (by omega)
      rw [hm] at this
      exact parrot_hopeful.calls 1 _ _ _ false w this
    have hbo : (B o).size = o.length := rfl
    have hbx : (B x).size = x.length := rfl
    obtain ⟨bo, ho⟩ : ∃ b, B o = b := ⟨_, rfl⟩
    obtain ⟨bx, hx'⟩ : ∃ b, B x = b := ⟨_, rfl⟩
    rw [ho] at hbo ⊢
    rw [hx'] at hbx ⊢
    have hxp : 0 < x.length := List.length_pos_iff.2 hx
    have hd : ¬ ((o.length : Int) + 1 + (x.length : Int) ≤ (long : Int)) := by omega
    have hc1 : w.cell? ⟨cl, 0, none⟩ = some (.int .i64 (long : Int)) := by simp only [World.cell?, hS.b1]; rfl
    have HS := Aside0.mk hS
    clear hS hl hx
    go_enter Tryd.func63, Tryd.ntmps63
    go_wp2_with (go_at_call 64; refine (hhp _).mono ?_; rintro e w1 ⟨rfl, hb⟩)
    ((try simp only [Exit.inBlock, Exit.then]); refine bodyPost_ret (results_none rfl _ _ _) rfl ?_)
    exact ⟨rfl, v, l, by simp [mkL], HS.out.keep hb, MkKp.below v hb⟩
  | succ m ih =>
    intro o x l v w hm hx hxl hl hS
    have hhp : ∀ w, Calls Tryd.prog 64 #[.int .i64 (o.length : Int), .int .i64 (x.length : Int), .int .i64 (long : Int)] w fun e w' => e = .returned (.bool (hope (m + 1) x.length)) ∧ Below w.heap.size w w' := fun w => by
      have := hopeful_is (m + 1) o.length x.length (by omega) (by omega)
      rw [hm] at this
      exact parrot_hopeful.calls (m + 2) _ _ _ _ w this
    have hbo : (B o).size = o.length := rfl
    have hbx : (B x).size = x.length := rfl
    obtain ⟨bo, ho⟩ : ∃ b, B o = b := ⟨_, rfl⟩
    obtain ⟨bx, hx'⟩ : ∃ b, B x = b := ⟨_, rfl⟩
    rw [ho] at hbo ⊢
    rw [hx'] at hbx ⊢
    have HBO := Aside0.mk ho
    have HBX := Aside0.mk hx'
    have hadd : ∀ (a b : ByteArray) (W : World), a.size + b.size ≤ 9000000 → (Op.stringOp .add a b).run Tryd.prog W = .ok (.string (a ++ b)) W := fun a b W h => run_string_add_sum W a b (by omega)
    have h25 : 0 < 25 ^ m := Nat.pow_pos (by decide)
    have hl2 : l.length + 25 * 25 ^ m ≤ 1000000000000 := by rw [Nat.pow_succ] at hl; omega
    have h14 : 14 ^ m ≤ 25 ^ m := Nat.pow_le_pow_left (by decide) m
    have HX := Aside0.mk hx
    have HNUM := Aside0.mk (And.intro hl2 (And.intro h25 h14))
    have HIH := Aside0.mk ih
    obtain ⟨F, hF⟩ : ∃ F : UInt8 → List ByteArray, ∀ c, F c = (((befores c x).flatMap fun b => (mkL m b).map (c :: ·)).map (o ++ ·)).map B := ⟨_, fun _ => rfl⟩
    have HF := Aside0.mk hF
    clear hF
    have hc1 : w.cell? ⟨cl, 0, none⟩ = some (.int .i64 (long : Int)) := by simp only [World.cell?, hS.b1]; rfl
    have HS := Aside0.mk hS
    by_cases hv : x.length + 1 ≤ m + 1
    · have hd : (o.length : Int) + 1 + (x.length : Int) ≤ (long : Int) := by omega
      have htop : (if x.length + 1 ≤ m + 1 then [50 :: x] else []) = [50 :: x] := if_pos hv
      have hc2 : w.cell? ⟨cv, 0, none⟩ = some (.func (.func 56) #[] #[.pointer (some ⟨w0.heap.size, 0, none⟩)]) := by simp only [World.cell?, hS.b2]; rfl
      have e1 : bo ++ ⟨#[50]⟩ ++ bx = B (o ++ 50 :: x) := by
        rw [← HBO.out, ← HBX.out]
        exact B_of (by rw [L_append, L_append, L_B, L_B]; simp [L])
      have hvis := visit1 w0 cl cv (long : Int) (bo ++ ⟨#[50]⟩ ++ bx) l v w (by omega) hS
      rw [e1] at hvis
      have HE1 := Aside0.mk e1
      have HL1 : Aside0 ((l ++ [B (o ++ 50 :: x)]) = l ++ ((if x.length + 1 ≤ m + 1 then [50 :: x] else []).map (o ++ ·)).map B ∧ (l ++ [B (o ++ 50 :: x)]).length ≤ l.length + 1) := ⟨by rw [htop]; simp⟩
      obtain ⟨l1, hl1⟩ : ∃ l1, l ++ [B (o ++ 50 :: x)] = l1 := ⟨_, rfl⟩
      rw [hl1] at hvis HL1
      clear hl1 htop hS hv hl hx ho hx' e1 ih h25 h14 hl2
      by_cases hh : hope (m + 1) x.length = true
      · rw [hh] at hhp
        go_enter Tryd.func63, Tryd.ntmps63
        go_wp2_with (first | (go_at_call 56; go_loud (rw [HE1.out]; refine hvis.mono ?_; rintro e w1 ⟨rfl, v1, hS1, hK1⟩; have HS1 := Aside0.mk hS1; have HK1 := Aside0.mk hK1; clear hS1 hK1 hvis hc1 hc2 HS; have hc1 : w1.cell? ⟨cl, 0, none⟩ = some (.int .i64 (long : Int)) := (by simp only [World.cell?, HS1.out.b1]; rfl))) | (go_at_call 64; go_loud (refine (hhp _).mono ?_; rintro e w2 ⟨rfl, hb2⟩; have HS2 := Aside0.mk (HS1.out.keep hb2); have HK2 := Aside0.mk (HK1.out.trans (MkKp.below v1 hb2)); clear hb2 HS1 HK1 hc1; obtain ⟨bm, es, clock, R, hG, hbm, hfit, hD, hR⟩ := (hO.below HS2.out.below).ex; have HOWN : Aside0 (w2.ownsMap Tryd.prog 21 R bm es.size opsD) := ⟨⟨es, clock, hbm, hfit, Nat.le_refl _, hD⟩⟩; have HR := Aside0.mk hR; clear hbm hfit hD hR)) | (at_range; go_loud (refine wpList_range_own _ rfl _ 55 rfl 21 54 (int_keyed Tryd.underlying21) Tryd.underlying55 R bm es.size opsD rfl HOWN.out ?_; intro w3 hrg0 hg0 hs0)))
        go_frame
        have HB3 : Below w2.heap.size w2 w3 := pw_below_grown (Below.refl _ _) none (Nat.le_refl _) hg0 (fun k hk => by cases hk)
        have HS3 := Aside0.mk (HS2.out.keep HB3)
        have HK3 := Aside0.mk (HK2.out.trans (MkKp.below v1 HB3))
        have hr4 : w0.heap.size + 4 ≤ w2.heap.size := by have := (Array.getElem?_eq_some_iff.1 HS2.out.b3).1; omega
        have hrw : w.heap.size ≤ w2.heap.size := HK2.out.size
        obtain ⟨r, hr⟩ : ∃ r, w2.heap.size = r := ⟨_, rfl⟩
        rw [hr] at hrg0 hr4 hrw ⊢
        clear HS2 HK2 HOWN hg0 hs0 HB3 hG hr
        go_loopg [] (Maps.size opsD) (fun qq wr => ∃ (left : Lit → Bool) (v2 : Value) (l2 : List ByteArray), wr.ranges Tryd.prog 21 R bm r es.size opsD left qq ∧ Aside0 (∀ kl, left kl = true → Maps.has opsD kl = true) ∧ Aside0 (l2.Perm (l1 ++ (five.flatMap fun c => if left (.int .i32 (c.toNat : Int)) = true then [] else F c))) ∧ Aside0 (MkSt w0 cl cv (long : Int) wr v2 l2) ∧ Aside0 (MkKp w0.heap.size w v wr v2))
        case atStart => exact ⟨Maps.has opsD, v1, l1, hrg0, ⟨fun _ h => h⟩, ⟨by rw [flatMap_nil (fun c hc => by rw [if_pos (has_five hc)])]; simp⟩, HS3, HK3⟩
        case round =>
          clear hrg0 HS3 HK3
          obtain ⟨left, v2, l2, hrg, HL, HP, HS4, HK4⟩ := hrel
          go_wp2_with (first | (at_next; go_loud (refine wpList_next_ranges _ rfl _ rfl 21 (int_keyed Tryd.underlying21) R (Value.int .i32) (fun c => c) (fun key kl hkey => by obtain ⟨z, rfl, _⟩ := Maps.keyOf_int_inv Tryd.underlying21 hkey; exact ⟨z, rfl⟩) (fun v y _ => ⟨v, rfl⟩) bm r es.size opsD left _ rfl hrg ?_ ?_)) | go_in)
          · intro hc0 hl0
            subst hc0
            go_wp2
            ((try simp only [Exit.inBlock, Exit.then]); refine bodyPost_end (results_none rfl _ _ _) rfl ?_)
            refine ⟨rfl, v2, l2, ?_, HS4.out, HK4.out⟩
            have hp := HP.out
            simp only [hl0, Bool.false_eq_true, if_false] at hp
            refine hp.trans ?_
            rw [HL1.out.1, mkL, List.append_assoc]
            refine List.Perm.of_eq (congrArg (l ++ ·) ?_)
            rw [List.map_append, List.map_append]
            refine congrArg (_ ++ ·) ?_
            rw [List.map_flatMap, List.map_flatMap]
            exact flatMap_congr' fun c _ => HF.out c
          · intro z c kl y1 y2 w4 cnt1 hkx hlx hRc hat hrg1 hlt hg1 hs1 hen
            obtain ⟨z', ez, rfl, hwz⟩ := Maps.keyOf_int_inv Tryd.underlying21 hkx
            cases ez
            obtain ⟨cc, hcc, rfl⟩ := opsD_has (HL.out _ hlx) z rfl
            have hop := mem_five.1 hcc
            have hy := hat .nil
            rw [opsD_hit hop] at hy
            subst hy
            have hceq : c = opVal cc := HR.out cc hop _ _ hRc
            subst hceq
            have hobj := ranges_obj hrg
            have HS5 := Aside0.mk (HS4.out.iter hg1 hr4 hobj.2)
            have HK5 := Aside0.mk (HK4.out.iter hg1 hrw)
            have hxl3 : x.length ≤ 100000 := by omega
            obtain ⟨bl, hbl⟩ : ∃ bl, befores cc x = bl := ⟨_, rfl⟩
            have hcb := fun w => callB' hop x hxl3 w
            rw [HBX.out, hbl] at hcb
            have HBL : Aside0 (befores cc x = bl ∧ ∀ b ∈ bl, b ≠ [] ∧ b.length ≤ x.length + 1) := ⟨hbl, fun b hb => (fun h => ⟨h.1, h.2.2⟩) (befores_len hcc HX.out (hbl ▸ hb))⟩
            have hblm : bl.length ≤ 9 := Nat.le_trans (hbl ▸ befores_many hcc x) (manyB_le cc)
            obtain ⟨fb, hfb1, hfb2, hfb3⟩ := fB_run hop
            obtain ⟨na, hna⟩ : ∃ na, fA cc = na := ⟨_, rfl⟩
            obtain ⟨nl, hnl⟩ : ∃ nl, fL cc = nl := ⟨_, rfl⟩
            obtain ⟨nb, hnb⟩ : ∃ nb, fB cc = nb := ⟨_, rfl⟩
            unfold opVal at hen ⊢
            rw [hna, hnl, hnb] at hen ⊢
            rw [hnb] at hcb hfb1
            have hrg5 := hrg1
            have HRG := Aside0.mk hrg5
            have HLT := Aside0.mk hlt
            have HCC := Aside0.mk (And.intro hcc (And.intro hop hlx))
            clear hrg hrg1 hrg5 hobj HS4 HK4 hg1 hs1 hRc hat hwz hkx hna hnl hnb hop hcc hlx hlt hbl
            have hbW : Below w4.heap.size w4 (w4.alloc (.cells #[.func (.func na) #[] #[], .func (.func nl) #[] #[], .func (.func nb) #[] #[]] 54)) := below_alloc (Below.refl _ _) _
            have HSW := Aside0.mk (HS5.out.keep hbW)
            have HKW := Aside0.mk (HK5.out.trans (MkKp.below v2 hbW))
            have HRW := Aside0.mk (ranges_kp HRG.out HS5.out (MkKp.below v2 hbW))
            clear hbW HS5 HK5 HRG
            go_wp2_with (first | ((with_reducible refine Goes.gate_slot rfl ?_); go_loud (refine Goes.goesTL _ rfl rfl hfb1 hfb2 hfb3 #[.string bx] rfl (by (try simp only [List.map_toArray, List.map_cons, List.map_nil]); first | done | rfl) ?_; refine (hcb _).mono ?_; rintro e w6 ⟨pb, cb, rfl, hform, hb6⟩; have HFORM := Aside0.mk hform; have HB6 := Aside0.mk hb6; clear hform hb6; refine ⟨_, rfl, ?_⟩)))
            have HS6 := Aside0.mk (HSW.out.keep HB6.out)
            have HK6 := Aside0.mk (HKW.out.trans (MkKp.below v2 HB6.out))
            have HR6 := Aside0.mk (ranges_kp HRW.out HSW.out (MkKp.below v2 HB6.out))
            have HOLD : Aside0 (∀ k, v2.ownBlock = some k → k < (w4.alloc (.cells #[.func (.func na) #[] #[], .func (.func nl) #[] #[], .func (.func nb) #[] #[]] 54)).heap.size) := ⟨fun k hk => by
              obtain ⟨cells, hh⟩ := own_typed HSW.out.own k hk
              exact (Array.getElem?_eq_some_iff.1 hh).1⟩
            have HCO : Aside0 (w0.heap.size + 3 < (w4.alloc (.cells #[.func (.func na) #[] #[], .func (.func nl) #[] #[], .func (.func nb) #[] #[]] 54)).heap.size) := ⟨(Array.getElem?_eq_some_iff.1 HSW.out.b3).1⟩
            clear HSW HKW HRW HB6 hcb hen
            go_loopg [44] bl.length (fun q v44 wj => ∃ (j : Nat) (v3 : Value) (l3 : List ByteArray), v44 = .int .i64 (j : Int) ∧ j + q = bl.length ∧ Aside0 (l3.Perm (l2 ++ ((bl.take j).flatMap fun b => (mkL m b).map fun y => o ++ cc :: y).map B)) ∧ Aside0 (MkSt w0 cl cv (long : Int) wj v3 l3) ∧ Aside0 (MkKp w0.heap.size w6 v2 wj v3))
            case atStart => exact ⟨0, v2, l2, rfl, by omega, ⟨by simp⟩, HS6, ⟨MkKp.refl _ _ _⟩⟩
            case round =>
              obtain ⟨j, v3, l3, rfl, hjq, HPj, HSj, HKj⟩ := hrel
              by_cases hjn : j < bl.length
              · obtain ⟨q, rfl⟩ : ∃ q, gk = q + 1 := ⟨gk - 1, by omega⟩
                obtain ⟨g, cells, rfl, hg, hcells, hat⟩ : ∃ g cells, pb = some ⟨g, 0, none⟩ ∧ (w4.alloc (.cells #[.func (.func na) #[] #[], .func (.func nl) #[] #[], .func (.func nb) #[] #[]] 54)).heap.size ≤ g ∧ w6.heap[g]? = some (.cells cells 9) ∧ ∀ (i : Nat) b, bl[i]? = some b → cells[i]? = some (.string (B b)) := by
                  rcases HFORM.out with h | h
                  · omega
                  · exact h
                obtain ⟨b, hb⟩ : ∃ b, bl[j]? = some b := ⟨bl[j], List.getElem?_eq_getElem hjn⟩
                have hbm := HBL.out.2 b (List.mem_of_getElem? hb)
                have hgj : wr.heap[g]? = some (.cells cells 9) := (HKj.out.block g (Array.getElem?_eq_some_iff.1 hcells).1 (fun e => by have := HCO.out; omega) (fun e => by have := HOLD.out g e; omega)).trans hcells
                obtain ⟨bb, hbb⟩ : ∃ bb, B b = bb := ⟨_, rfl⟩
                have hxj : wr.cell? ⟨g, j, none⟩ = some (.string bb) := by
                  rw [← hbb]
                  simp only [World.cell?, hgj]
                  exact hat j b hb
                have hc3 : wr.cell? ⟨w0.heap.size + 3, 0, none⟩ = some (.func (.func 63) #[] #[.pointer (some ⟨cl, 0, none⟩), .pointer (some ⟨cv, 0, none⟩), .pointer (some ⟨w0.heap.size + 3, 0, none⟩)]) := by simp only [World.cell?, HSj.out.b3]; rfl
                obtain ⟨s1, hs1⟩ : ∃ s1, B [cc] = s1 := ⟨_, rfl⟩
                have henc : Utf8.encode (cc.toNat : Int) = s1 := (encode_dig (op_ascii HCC.out.2.1)).trans hs1
                have hcv : ∀ W, (convert 21 9 (.int .i32 (cc.toNat : Int))).run Tryd.prog W = .ok (.string s1) W := fun W => by
                  rw [← henc]
                  simp [convert, run_underlying Tryd.underlying21, run_underlying Tryd.underlying9, Conv.intToString]
                have hes : s1.size = 1 := by rw [← hs1]; rfl
                have e1 : B (o ++ [cc]) = bo ++ s1 := by
                  rw [← HBO.out, ← hs1]
                  exact (B_of (by rw [L_append, L_B, L_B])).symm
                have hlen3 : l3.length + 25 ^ m ≤ 1000000000000 := by
                  have h1 := HPj.out.length_eq
                  have h2 := HP.out.length_eq
                  rw [List.length_append] at h1 h2
                  have h3 := HL1.out.2
                  have h4 := F_len HF.out (fun c => left (.int .i32 (c.toNat : Int)))
                  have h5 : (((bl.take j).flatMap fun b => (mkL m b).map fun y => o ++ cc :: y).map B).length ≤ 9 * 14 ^ m := by
                    rw [List.length_map]
                    refine Nat.le_trans (flatMap_len _ (14 ^ m) _ (fun b _ => by rw [List.length_map]; exact mkL_many m b)) (Nat.mul_le_mul_right _ ?_)
                    rw [List.length_take]; omega
                  have h6 := HNUM.out
                  omega
                have hstep := HIH.out (o ++ [cc]) b l3 v3 wr (by rw [List.length_append, List.length_singleton]; omega) hbm.1 (by omega) hlen3 HSj.out
                rw [e1, hbb] at hstep
                have htk : bl.take (j + 1) = bl.take j ++ [b] := by rw [List.take_add_one, hb]; rfl
                have HTK := Aside0.mk htk
                have HSTEP := Aside0.mk hstep
                clear henc hs1 hbb htk hstep hlen3 e1 hgj hat hcells hb HFORM hbm hg HSj
                go_wp2_with (go_at_call 63; go_loud (refine HSTEP.out.mono ?_; rintro e w7 ⟨rfl, v4, l4, hp4, hS4, hK4⟩; have HP4 := Aside0.mk hp4; have HS4 := Aside0.mk hS4; have HK4 := Aside0.mk (HKj.out.trans hK4); clear hp4 hS4 hK4 HSTEP HKj hc3 hxj))
                go_roundg q
                case measure => omega
                case rel =>
                  refine ⟨j + 1, v4, l4, by go_num, by omega, ⟨?_⟩, HS4, HK4⟩
                  refine HP4.out.trans ?_
                  refine (List.Perm.append_right _ HPj.out).trans ?_
                  rw [List.append_assoc, HTK.out, List.flatMap_append, List.map_append, List.flatMap_singleton]
                  refine List.Perm.of_eq ?_
                  congr 2
                  rw [List.map_map, List.map_map]
                  refine List.map_congr_left fun z _ => ?_
                  simp
              · obtain rfl : gk = 0 := by omega
                obtain rfl : j = bl.length := by omega
                have HRj := ranges_kp HR6.out HS6.out HKj.out
                have hlt := HLT.out
                go_wp2
                go_roundg cnt1
                case measure => omega
                case rel =>
                  refine ⟨_, v3, l3, HRj, ⟨fun kl hk => HL.out kl (by simp only [Bool.and_eq_true] at hk; exact hk.1)⟩, ⟨?_⟩, HSj, ⟨HK6.out.trans HKj.out⟩⟩
                  refine HPj.out.trans ?_
                  rw [List.take_length, ← HBL.out.1]
                  have hFc : ((befores cc x).flatMap fun b => (mkL m b).map fun y => o ++ cc :: y).map B = F cc := by
                    rw [HF.out]
                    refine congrArg (List.map B) ?_
                    rw [List.map_flatMap]
                    refine flatMap_congr' fun b _ => ?_
                    rw [List.map_map]; rfl
                  rw [hFc]
                  refine (List.Perm.append_right _ HP.out).trans ?_
                  rw [List.append_assoc]
                  refine List.Perm.append_left _ ?_
                  have hu := flat_upd F (fun c => left (.int .i32 (c.toNat : Int))) cc five (by decide) HCC.out.1 HCC.out.2.2
                  refine hu.symm.trans (List.Perm.of_eq ?_)
                  refine flatMap_congr' fun c _ => ?_
                  simp only [key_same]
      · rw [Bool.eq_false_iff.2 hh] at hhp
        have HH : Aside0 (hope (m + 1) x.length = false) := ⟨Bool.eq_false_iff.2 hh⟩
        go_enter Tryd.func63, Tryd.ntmps63
        go_wp2_with (first | (go_at_call 56; go_loud (rw [HE1.out]; refine hvis.mono ?_; rintro e w1 ⟨rfl, v1, hS1, hK1⟩; have HS1 := Aside0.mk hS1; have HK1 := Aside0.mk hK1; clear hS1 hK1 hvis hc1 hc2 HS; have hc1 : w1.cell? ⟨cl, 0, none⟩ = some (.int .i64 (long : Int)) := (by simp only [World.cell?, HS1.out.b1]; rfl))) | (go_at_call 64; refine (hhp _).mono ?_; rintro e w2 ⟨rfl, hb2⟩))
        ((try simp only [Exit.inBlock, Exit.then]); refine bodyPost_ret (results_none rfl _ _ _) rfl ?_)
        refine ⟨rfl, v1, l1, ?_, HS1.out.keep hb2, HK1.out.trans (MkKp.below v1 hb2)⟩
        rw [HL1.out.1, mkL, mkL_hopeless_all HX.out HH.out, List.append_nil]
    · have hd : ¬ ((o.length : Int) + 1 + (x.length : Int) ≤ (long : Int)) := by omega
      have htop : (if x.length + 1 ≤ m + 1 then [50 :: x] else []) = [] := if_neg hv
      have key : ∀ (w1 : World) (v1 : Value) (l1 : List ByteArray), Aside0 (MkSt w0 cl cv (long : Int) w1 v1 l1) → Aside0 (MkKp w0.heap.size w v w1 v1) → Aside0 (l1 = l ++ ((if x.length + 1 ≤ m + 1 then [50 :: x] else []).map (o ++ ·)).map B ∧ l1.length ≤ l.length + 1) → w1.cell? ⟨cl, 0, none⟩ = some (.int .i64 (long : Int)) →
          Calls Tryd.prog 63 #[.string bo, .string bx, .pointer (some ⟨cl, 0, none⟩), .pointer (some ⟨cv, 0, none⟩), .pointer (some ⟨w0.heap.size + 3, 0, none⟩)] w1 fun e w' => e = .returned (.tuple #[]) ∧ ∃ v' l', l'.Perm (l ++ ((mkL (m + 1) x).map (o ++ ·)).map B) ∧ MkSt w0 cl cv (long : Int) w' v' l' ∧ MkKp w0.heap.size w v w' v' := by
        clear htop hS hv hl hx ho hx' ih h25 h14 hl2 hc1 HS
        intro w1 v1 l1 HS1 HK1 HL1 hc1
        by_cases hh : hope (m + 1) x.length = true
        · rw [hh] at hhp
          go_enter Tryd.func63, Tryd.ntmps63
          go_wp2_with (first | (go_at_call 64; go_loud (refine (hhp _).mono ?_; rintro e w2 ⟨rfl, hb2⟩; have HS2 := Aside0.mk (HS1.out.keep hb2); have HK2 := Aside0.mk (HK1.out.trans (MkKp.below v1 hb2)); clear hb2 HS1 HK1 hc1; obtain ⟨bm, es, clock, R, hG, hbm, hfit, hD, hR⟩ := (hO.below HS2.out.below).ex; have HOWN : Aside0 (w2.ownsMap Tryd.prog 21 R bm es.size opsD) := ⟨⟨es, clock, hbm, hfit, Nat.le_refl _, hD⟩⟩; have HR := Aside0.mk hR; clear hbm hfit hD hR)) | (at_range; go_loud (refine wpList_range_own _ rfl _ 55 rfl 21 54 (int_keyed Tryd.underlying21) Tryd.underlying55 R bm es.size opsD rfl HOWN.out ?_; intro w3 hrg0 hg0 hs0)))
          go_frame
          have HB3 : Below w2.heap.size w2 w3 := pw_below_grown (Below.refl _ _) none (Nat.le_refl _) hg0 (fun k hk => by cases hk)
          have HS3 := Aside0.mk (HS2.out.keep HB3)
          have HK3 := Aside0.mk (HK2.out.trans (MkKp.below v1 HB3))
          have hr4 : w0.heap.size + 4 ≤ w2.heap.size := by have := (Array.getElem?_eq_some_iff.1 HS2.out.b3).1; omega
          have hrw : w.heap.size ≤ w2.heap.size := HK2.out.size
          obtain ⟨r, hr⟩ : ∃ r, w2.heap.size = r := ⟨_, rfl⟩
          rw [hr] at hrg0 hr4 hrw ⊢
          clear HS2 HK2 HOWN hg0 hs0 HB3 hG hr
          go_loopg [] (Maps.size opsD) (fun qq wr => ∃ (left : Lit → Bool) (v2 : Value) (l2 : List ByteArray), wr.ranges Tryd.prog 21 R bm r es.size opsD left qq ∧ Aside0 (∀ kl, left kl = true → Maps.has opsD kl = true) ∧ Aside0 (l2.Perm (l1 ++ (five.flatMap fun c => if left (.int .i32 (c.toNat : Int)) = true then [] else F c))) ∧ Aside0 (MkSt w0 cl cv (long : Int) wr v2 l2) ∧ Aside0 (MkKp w0.heap.size w v wr v2))
          case atStart => exact ⟨Maps.has opsD, v1, l1, hrg0, ⟨fun _ h => h⟩, ⟨by rw [flatMap_nil (fun c hc => by rw [if_pos (has_five hc)])]; simp⟩, HS3, HK3⟩
          case round =>
            clear hrg0 HS3 HK3
            obtain ⟨left, v2, l2, hrg, HL, HP, HS4, HK4⟩ := hrel
            go_wp2_with (first | (at_next; go_loud (refine wpList_next_ranges _ rfl _ rfl 21 (int_keyed Tryd.underlying21) R (Value.int .i32) (fun c => c) (fun key kl hkey => by obtain ⟨z, rfl, _⟩ := Maps.keyOf_int_inv Tryd.underlying21 hkey; exact ⟨z, rfl⟩) (fun v y _ => ⟨v, rfl⟩) bm r es.size opsD left _ rfl hrg ?_ ?_)) | go_in)
            · intro hc0 hl0
              subst hc0
              go_wp2
              ((try simp only [Exit.inBlock, Exit.then]); refine bodyPost_end (results_none rfl _ _ _) rfl ?_)
              refine ⟨rfl, v2, l2, ?_, HS4.out, HK4.out⟩
              have hp := HP.out
              simp only [hl0, Bool.false_eq_true, if_false] at hp
              refine hp.trans ?_
              rw [HL1.out.1, mkL, List.append_assoc]
              refine List.Perm.of_eq (congrArg (l ++ ·) ?_)
              rw [List.map_append, List.map_append]
              refine congrArg (_ ++ ·) ?_
              rw [List.map_flatMap, List.map_flatMap]
              exact flatMap_congr' fun c _ => HF.out c
            · intro z c kl y1 y2 w4 cnt1 hkx hlx hRc hat hrg1 hlt hg1 hs1 hen
              obtain ⟨z', ez, rfl, hwz⟩ := Maps.keyOf_int_inv Tryd.underlying21 hkx
              cases ez
              obtain ⟨cc, hcc, rfl⟩ := opsD_has (HL.out _ hlx) z rfl
              have hop := mem_five.1 hcc
              have hy := hat .nil
              rw [opsD_hit hop] at hy
              subst hy
              have hceq : c = opVal cc := HR.out cc hop _ _ hRc
              subst hceq
              have hobj := ranges_obj hrg
              have HS5 := Aside0.mk (HS4.out.iter hg1 hr4 hobj.2)
              have HK5 := Aside0.mk (HK4.out.iter hg1 hrw)
              have hxl3 : x.length ≤ 100000 := by omega
              obtain ⟨bl, hbl⟩ : ∃ bl, befores cc x = bl := ⟨_, rfl⟩
              have hcb := fun w => callB' hop x hxl3 w
              rw [HBX.out, hbl] at hcb
              have HBL : Aside0 (befores cc x = bl ∧ ∀ b ∈ bl, b ≠ [] ∧ b.length ≤ x.length + 1) := ⟨hbl, fun b hb => (fun h => ⟨h.1, h.2.2⟩) (befores_len hcc HX.out (hbl ▸ hb))⟩
              have hblm : bl.length ≤ 9 := Nat.le_trans (hbl ▸ befores_many hcc x) (manyB_le cc)
              obtain ⟨fb, hfb1, hfb2, hfb3⟩ := fB_run hop
              obtain ⟨na, hna⟩ : ∃ na, fA cc = na := ⟨_, rfl⟩
              obtain ⟨nl, hnl⟩ : ∃ nl, fL cc = nl := ⟨_, rfl⟩
              obtain ⟨nb, hnb⟩ : ∃ nb, fB cc = nb := ⟨_, rfl⟩
              unfold opVal at hen ⊢
              rw [hna, hnl, hnb] at hen ⊢
              rw [hnb] at hcb hfb1
              have hrg5 := hrg1
              have HRG := Aside0.mk hrg5
              have HLT := Aside0.mk hlt
              have HCC := Aside0.mk (And.intro hcc (And.intro hop hlx))
              clear hrg hrg1 hrg5 hobj HS4 HK4 hg1 hs1 hRc hat hwz hkx hna hnl hnb hop hcc hlx hlt hbl
              have hbW : Below w4.heap.size w4 (w4.alloc (.cells #[.func (.func na) #[] #[], .func (.func nl) #[] #[], .func (.func nb) #[] #[]] 54)) := below_alloc (Below.refl _ _) _
              have HSW := Aside0.mk (HS5.out.keep hbW)
              have HKW := Aside0.mk (HK5.out.trans (MkKp.below v2 hbW))
              have HRW := Aside0.mk (ranges_kp HRG.out HS5.out (MkKp.below v2 hbW))
              clear hbW HS5 HK5 HRG
              go_wp2_with (first | ((with_reducible refine Goes.gate_slot rfl ?_); go_loud (refine Goes.goesTL _ rfl rfl hfb1 hfb2 hfb3 #[.string bx] rfl (by (try simp only [List.map_toArray, List.map_cons, List.map_nil]); first | done | rfl) ?_; refine (hcb _).mono ?_; rintro e w6 ⟨pb, cb, rfl, hform, hb6⟩; have HFORM := Aside0.mk hform; have HB6 := Aside0.mk hb6; clear hform hb6; refine ⟨_, rfl, ?_⟩)))
              have HS6 := Aside0.mk (HSW.out.keep HB6.out)
              have HK6 := Aside0.mk (HKW.out.trans (MkKp.below v2 HB6.out))
              have HR6 := Aside0.mk (ranges_kp HRW.out HSW.out (MkKp.below v2 HB6.out))
              have HOLD : Aside0 (∀ k, v2.ownBlock = some k → k < (w4.alloc (.cells #[.func (.func na) #[] #[], .func (.func nl) #[] #[], .func (.func nb) #[] #[]] 54)).heap.size) := ⟨fun k hk => by
                obtain ⟨cells, hh⟩ := own_typed HSW.out.own k hk
                exact (Array.getElem?_eq_some_iff.1 hh).1⟩
              have HCO : Aside0 (w0.heap.size + 3 < (w4.alloc (.cells #[.func (.func na) #[] #[], .func (.func nl) #[] #[], .func (.func nb) #[] #[]] 54)).heap.size) := ⟨(Array.getElem?_eq_some_iff.1 HSW.out.b3).1⟩
              clear HSW HKW HRW HB6 hcb hen
              go_loopg [44] bl.length (fun q v44 wj => ∃ (j : Nat) (v3 : Value) (l3 : List ByteArray), v44 = .int .i64 (j : Int) ∧ j + q = bl.length ∧ Aside0 (l3.Perm (l2 ++ ((bl.take j).flatMap fun b => (mkL m b).map fun y => o ++ cc :: y).map B)) ∧ Aside0 (MkSt w0 cl cv (long : Int) wj v3 l3) ∧ Aside0 (MkKp w0.heap.size w6 v2 wj v3))
              case atStart => exact ⟨0, v2, l2, rfl, by omega, ⟨by simp⟩, HS6, ⟨MkKp.refl _ _ _⟩⟩
              case round =>
                obtain ⟨j, v3, l3, rfl, hjq, HPj, HSj, HKj⟩ := hrel
                by_cases hjn : j < bl.length
                · obtain ⟨q, rfl⟩ : ∃ q, gk = q + 1 := ⟨gk - 1, by omega⟩
                  obtain ⟨g, cells, rfl, hg, hcells, hat⟩ : ∃ g cells, pb = some ⟨g, 0, none⟩ ∧ (w4.alloc (.cells #[.func (.func na) #[] #[], .func (.func nl) #[] #[], .func (.func nb) #[] #[]] 54)).heap.size ≤ g ∧ w6.heap[g]? = some (.cells cells 9) ∧ ∀ (i : Nat) b, bl[i]? = some b → cells[i]? = some (.string (B b)) := by
                    rcases HFORM.out with h | h
                    · omega
                    · exact h
                  obtain ⟨b, hb⟩ : ∃ b, bl[j]? = some b := ⟨bl[j], List.getElem?_eq_getElem hjn⟩
                  have hbm := HBL.out.2 b (List.mem_of_getElem? hb)
                  have hgj : wr.heap[g]? = some (.cells cells 9) := (HKj.out.block g (Array.getElem?_eq_some_iff.1 hcells).1 (fun e => by have := HCO.out; omega) (fun e => by have := HOLD.out g e; omega)).trans hcells
                  obtain ⟨bb, hbb⟩ : ∃ bb, B b = bb := ⟨_, rfl⟩
                  have hxj : wr.cell? ⟨g, j, none⟩ = some (.string bb) := by
                    rw [← hbb]
                    simp only [World.cell?, hgj]
                    exact hat j b hb
                  have hc3 : wr.cell? ⟨w0.heap.size + 3, 0, none⟩ = some (.func (.func 63) #[] #[.pointer (some ⟨cl, 0, none⟩), .pointer (some ⟨cv, 0, none⟩), .pointer (some ⟨w0.heap.size + 3, 0, none⟩)]) := by simp only [World.cell?, HSj.out.b3]; rfl
                  obtain ⟨s1, hs1⟩ : ∃ s1, B [cc] = s1 := ⟨_, rfl⟩
                  have henc : Utf8.encode (cc.toNat : Int) = s1 := (encode_dig (op_ascii HCC.out.2.1)).trans hs1
                  have hcv : ∀ W, (convert 21 9 (.int .i32 (cc.toNat : Int))).run Tryd.prog W = .ok (.string s1) W := fun W => by
                    rw [← henc]
                    simp [convert, run_underlying Tryd.underlying21, run_underlying Tryd.underlying9, Conv.intToString]
                  have hes : s1.size = 1 := by rw [← hs1]; rfl
                  have e1 : B (o ++ [cc]) = bo ++ s1 := by
                    rw [← HBO.out, ← hs1]
                    exact (B_of (by rw [L_append, L_B, L_B])).symm
                  have hlen3 : l3.length + 25 ^ m ≤ 1000000000000 := by
                    have h1 := HPj.out.length_eq
                    have h2 := HP.out.length_eq
                    rw [List.length_append] at h1 h2
                    have h3 := HL1.out.2
                    have h4 := F_len HF.out (fun c => left (.int .i32 (c.toNat : Int)))
                    have h5 : (((bl.take j).flatMap fun b => (mkL m b).map fun y => o ++ cc :: y).map B).length ≤ 9 * 14 ^ m := by
                      rw [List.length_map]
                      refine Nat.le_trans (flatMap_len _ (14 ^ m) _ (fun b _ => by rw [List.length_map]; exact mkL_many m b)) (Nat.mul_le_mul_right _ ?_)
                      rw [List.length_take]; omega
                    have h6 := HNUM.out
                    omega
                  have hstep := HIH.out (o ++ [cc]) b l3 v3 wr (by rw [List.length_append, List.length_singleton]; omega) hbm.1 (by omega) hlen3 HSj.out
                  rw [e1, hbb] at hstep
                  have htk : bl.take (j + 1) = bl.take j ++ [b] := by rw [List.take_add_one, hb]; rfl
                  have HTK := Aside0.mk htk
                  have HSTEP := Aside0.mk hstep
                  clear henc hs1 hbb htk hstep hlen3 e1 hgj hat hcells hb HFORM hbm hg HSj
                  go_wp2_with (go_at_call 63; go_loud (refine HSTEP.out.mono ?_; rintro e w7 ⟨rfl, v4, l4, hp4, hS4, hK4⟩; have HP4 := Aside0.mk hp4; have HS4 := Aside0.mk hS4; have HK4 := Aside0.mk (HKj.out.trans hK4); clear hp4 hS4 hK4 HSTEP HKj hc3 hxj))
                  go_roundg q
                  case measure => omega
                  case rel =>
                    refine ⟨j + 1, v4, l4, by go_num, by omega, ⟨?_⟩, HS4, HK4⟩
                    refine HP4.out.trans ?_
                    refine (List.Perm.append_right _ HPj.out).trans ?_
                    rw [List.append_assoc, HTK.out, List.flatMap_append, List.map_append, List.flatMap_singleton]
                    refine List.Perm.of_eq ?_
                    congr 2
                    rw [List.map_map, List.map_map]
                    refine List.map_congr_left fun z _ => ?_
                    simp
                · obtain rfl : gk = 0 := by omega
                  obtain rfl : j = bl.length := by omega
                  have HRj := ranges_kp HR6.out HS6.out HKj.out
                  have hlt := HLT.out
                  go_wp2
                  go_roundg cnt1
                  case measure => omega
                  case rel =>
                    refine ⟨_, v3, l3, HRj, ⟨fun kl hk => HL.out kl (by simp only [Bool.and_eq_true] at hk; exact hk.1)⟩, ⟨?_⟩, HSj, ⟨HK6.out.trans HKj.out⟩⟩
                    refine HPj.out.trans ?_
                    rw [List.take_length, ← HBL.out.1]
                    have hFc : ((befores cc x).flatMap fun b => (mkL m b).map fun y => o ++ cc :: y).map B = F cc := by
                      rw [HF.out]
                      refine congrArg (List.map B) ?_
                      rw [List.map_flatMap]
                      refine flatMap_congr' fun b _ => ?_
                      rw [List.map_map]; rfl
                    rw [hFc]
                    refine (List.Perm.append_right _ HP.out).trans ?_
                    rw [List.append_assoc]
                    refine List.Perm.append_left _ ?_
                    have hu := flat_upd F (fun c => left (.int .i32 (c.toNat : Int))) cc five (by decide) HCC.out.1 HCC.out.2.2
                    refine hu.symm.trans (List.Perm.of_eq ?_)
                    refine flatMap_congr' fun c _ => ?_
                    simp only [key_same]
        · rw [Bool.eq_false_iff.2 hh] at hhp
          have HH : Aside0 (hope (m + 1) x.length = false) := ⟨Bool.eq_false_iff.2 hh⟩
          go_enter Tryd.func63, Tryd.ntmps63
          go_wp2_with (go_at_call 64; refine (hhp _).mono ?_; rintro e w2 ⟨rfl, hb2⟩)
          ((try simp only [Exit.inBlock, Exit.then]); refine bodyPost_ret (results_none rfl _ _ _) rfl ?_)
          refine ⟨rfl, v1, l1, ?_, HS1.out.keep hb2, HK1.out.trans (MkKp.below v1 hb2)⟩
          rw [HL1.out.1, mkL, mkL_hopeless_all HX.out HH.out, List.append_nil]
      exact key w v l HS ⟨MkKp.refl _ _ _⟩ ⟨by rw [htop]; simp⟩ hc1

end Go.Proofs.YtcjbnonjhahakaaDoor.Hand
