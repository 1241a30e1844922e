/- A part of the proof that pomadetop.TopTold returns true for every input: HandPb, HandPc, HandPd, HandD. No condition beyond those that each theorem states. -/
import Derived.Maps.OwnSet
import Derived.LaidMore
import Derived.Lib.OthersKept
import Derived.Laws.RangeString
import Derived.Laws.EntriesVeiled
import Derived.Deep.RegionLaw
import Derived.Test.YtldohjlcckbfaaaGreatDoorK13
namespace Go.Proofs.YtldohjlcckbfaaaGreatDoor.Hand
open Go.RowKit Go.Proofs.YtldohjlcckbfaaaGreatDoorW.PrintWords Go.Proofs.YtldohjlcckbfaaaGreatDoorW.PrintLast Go.Proofs.YtldohjlcckbfaaaGreatDoorW.PrintMore
set_option linter.unusedVariables false
set_option linter.unusedSimpArgs false
open Go.Maps Go.Proofs.YtldohjlcckbfaaaGreatDoor.MathP Go.Proofs.YtldohjlcckbfaaaGreatDoor.Goes
def fA (c : UInt8) : Nat := if c = 51 then 300 else if c = 52 then 102 else if c = 53 then 305 else if c = 54 then 308 else 311
def fL (c : UInt8) : Nat := if c = 51 then 301 else if c = 52 then 303 else if c = 53 then 306 else if c = 54 then 309 else 312
def fB (c : UInt8) : Nat := if c = 51 then 302 else if c = 52 then 304 else if c = 53 then 307 else if c = 54 then 310 else 313
def opVal (c : UInt8) : Value := .agg #[.func (.func (fA c)) #[] #[], .func (.func (fL c)) #[] #[], .func (.func (fB c)) #[] #[]]
def preN : List UInt8 := [112, 111, 109, 97, 100, 101, 47, 112, 97, 114, 114, 111, 116, 46, 111, 112, 101, 114, 97, 116, 105, 111, 110, 115, 36]
def nA (c : UInt8) : List UInt8 := if c = 51 then preN ++ [49] else if c = 52 then [112, 111, 109, 97, 100, 101, 47, 112, 97, 114, 114, 111, 116, 46, 114, 101, 118, 101, 114, 115, 101, 100] else if c = 53 then preN ++ [54] else if c = 54 then preN ++ [57] else preN ++ [49, 50]
def nL (c : UInt8) : List UInt8 := if c = 51 then preN ++ [50] else if c = 52 then preN ++ [52] else if c = 53 then preN ++ [55] else if c = 54 then preN ++ [49, 48] else preN ++ [49, 51]
def nB (c : UInt8) : List UInt8 := if c = 51 then preN ++ [51] else if c = 52 then preN ++ [53] else if c = 53 then preN ++ [56] else if c = 54 then preN ++ [49, 49] else preN ++ [49, 52]
def opD (c : UInt8) : DataW (List UInt8) := .agg [.held (nA c), .held (nL c), .held (nB c)]
def opsD : DataW (List UInt8) := .map [(.int .i32 51, opD 51), (.int .i32 52, opD 52), (.int .i32 53, opD 53), (.int .i32 54, opD 54), (.int .i32 55, opD 55)]
theorem isOp_cases {c : UInt8} (h : isOp c = true) : c = 51 ∨ c = 52 ∨ c = 53 ∨ c = 54 ∨ c = 55 := by
  have hh : ∀ n : Fin 256, isOp (UInt8.ofNat n) = true → UInt8.ofNat n = 51 ∨ UInt8.ofNat n = 52 ∨ UInt8.ofNat n = 53 ∨ UInt8.ofNat n = 54 ∨ UInt8.ofNat n = 55 := by decide +kernel
  have := hh ⟨c.toNat, c.toNat_lt⟩
  simpa [h] using this
structure Ops (w : World) : Prop where
  ex : ∃ (bm : Nat) (es : Array MapEntry) (clock : Nat) (R : Value → Option (DataW (List UInt8) × List MemPlace)), w.cell? ⟨0, 0, none⟩ = some (.map (some bm)) ∧ w.heap[bm]? = some (.map es clock) ∧ WideElems.Fit Tryz.prog 21 R es clock ∧
    opsD = .map ((es.toList.map (WideElems.rg Tryz.prog 21 R)).foldr DataW.insert []) ∧ (∀ c : UInt8, isOp c = true → ∀ v ps, R v = some (opD c, ps) → v = opVal c)
theorem Ops.below {w w' : World} (h : Ops w) (hb : Below w.heap.size w w') : Ops w' := by
  obtain ⟨bm, es, clock, R, h1, h2, h3, h4, h5⟩ := h.ex
  have hlt : bm < w.heap.size := (Array.getElem?_eq_some_iff.1 h2).1
  have h0 : 0 < w.heap.size := by omega
  exact ⟨bm, es, clock, R, (hb.cell (p := ⟨0, 0, none⟩) h0).trans h1, (hb.5 bm hlt).trans h2, h3, h4, h5⟩
def zeroOp : Value := .agg #[.nilFunc, .nilFunc, .nilFunc]
theorem opsD_hit {c : UInt8} (h : isOp c = true) (zd : DataW (List UInt8)) : opsD.atKey (.int .i32 (c.toNat : Int)) zd = opD c := by
  rcases isOp_cases h with rfl | rfl | rfl | rfl | rfl <;> rfl
theorem opsD_miss {c : UInt8} (h : isOp c = false) (zd : DataW (List UInt8)) : opsD.atKey (.int .i32 (c.toNat : Int)) zd = zd := by
  refine atKey_of_not_has ?_ zd
  have hh : ∀ n : Fin 256, isOp (UInt8.ofNat n) = false → Maps.has opsD (.int .i32 ((UInt8.ofNat n).toNat : Int)) = false := by decide +kernel
  have := hh ⟨c.toNat, c.toNat_lt⟩
  simpa [h] using this
theorem key21 (c : UInt8) : keyOf Tryz.prog 21 (.int .i32 (c.toNat : Int)) = some (.int .i32 (c.toNat : Int)) := keyOf_int_mk Tryz.underlying21 (by
  have := c.toNat_lt
  simp [Lit.wf, IntKind.min, IntKind.max, IntKind.bits, IntKind.signed]; omega)
theorem Ops.look {w : World} (h : Ops w) : ∃ bm, w.cell? ⟨0, 0, none⟩ = some (.map (some bm)) ∧ ∀ w' : World, w'.heap = w.heap →
    (∀ c : UInt8, isOp c = true → (Instr.lookup 171 (.map (some bm)) (.int .i32 (c.toNat : Int)) false).run Tryz.prog w' = .ok (opVal c) w' ∧ (Instr.lookup 171 (.map (some bm)) (.int .i32 (c.toNat : Int)) true).run Tryz.prog w' = .ok (.tuple #[opVal c, .bool true]) w') ∧
    (∀ c : UInt8, isOp c = false → (Instr.lookup 171 (.map (some bm)) (.int .i32 (c.toNat : Int)) true).run Tryz.prog w' = .ok (.tuple #[zeroOp, .bool false]) w') := by
  obtain ⟨bm, es, clock, R, h1, h2, h3, h4, h5⟩ := h.ex
  refine ⟨bm, h1, fun w' hw => ?_⟩
  have hb : w'.heap[bm]? = some (.map es clock) := by rw [hw]; exact h2
  have hz : (zeroValue 169).run Tryz.prog w' = .ok zeroOp w' := by kernel_rfl
  have hit : ∀ (q : Bool) (c : UInt8), isOp c = true → (Instr.lookup 171 (.map (some bm)) (.int .i32 (c.toNat : Int)) q).run Tryz.prog w' = .ok (if q = true then .tuple #[opVal c, .bool true] else opVal c) w' := by
    intro q c hc
    rcases Maps.fit_look q (int_keyed Tryz.underlying21) Tryz.underlying171 hz hb h3 (key21 c) with ⟨_, _, hat⟩ | ⟨e0, y, _, _, hrun, hR, hat, _⟩
    · rw [← h4] at hat
      have e := hat .nil
      rw [opsD_hit hc] at e
      cases e
    · rw [← h4] at hat
      have e := hat .nil
      rw [opsD_hit hc] at e
      obtain ⟨y1, y2⟩ := y
      simp only at e
      subst e
      rw [h5 c hc _ _ hR] at hrun
      exact hrun
  refine ⟨fun c hc => ⟨by simpa using hit false c hc, by simpa using hit true c hc⟩, fun c hc => ?_⟩
  rcases Maps.fit_look true (int_keyed Tryz.underlying21) Tryz.underlying171 hz hb h3 (key21 c) with ⟨hrun, _, _⟩ | ⟨e0, y, _, _, hrun, hR, hat, _⟩
  · simpa using hrun
  · rw [← h4] at hat
    have e1 := hat .nil
    have e2 := hat (.agg [])
    rw [opsD_miss hc] at e1 e2
    rw [← e1] at e2
    cases e2
theorem callL {c : UInt8} (hc : isOp c = true) (n : Nat) (h1 : 1 ≤ n) (h2 : n ≤ 2305843009213693952) (w : World) : Calls Tryz.prog (fL c) #[.int .i64 (n : Int)] w fun e w' => e = .returned (.int .i64 ((long1 c n : Nat) : Int)) ∧ w' = w := by
  rcases isOp_cases hc with rfl | rfl | rfl | rfl | rfl
  · show Calls Tryz.prog 301 _ _ _
    go_enter Tryz.func301, Tryz.ntmps301
    go_wp2
    go_ret
    exact ⟨congrArg (fun x => Ending.returned (Value.int .i64 x)) (by show _ = ((2 * n + 1 : Nat) : Int); omega), rfl⟩
  · show Calls Tryz.prog 303 _ _ _
    go_enter Tryz.func303, Tryz.ntmps303
    go_wp2
    go_ret
    exact ⟨rfl, rfl⟩
  · show Calls Tryz.prog 306 _ _ _
    go_enter Tryz.func306, Tryz.ntmps306
    go_wp2
    go_ret
    exact ⟨congrArg (fun x => Ending.returned (Value.int .i64 x)) (by show _ = ((2 * n : Nat) : Int); omega), rfl⟩
  · show Calls Tryz.prog 309 _ _ _
    go_enter Tryz.func309, Tryz.ntmps309
    go_wp2
    go_ret
    exact ⟨congrArg (fun x => Ending.returned (Value.int .i64 x)) (by show _ = ((n - 1 : Nat) : Int); omega), rfl⟩
  · show Calls Tryz.prog 312 _ _ _
    go_enter Tryz.func312, Tryz.ntmps312
    go_wp2
    go_ret
    exact ⟨congrArg (fun x => Ending.returned (Value.int .i64 x)) (by show _ = ((n + 1 : Nat) : Int); omega), rfl⟩
theorem B_of {a : ByteArray} {l : List UInt8} (h : L a = l) : a = B l := by rw [← h, B_L]
theorem callA {c : UInt8} (hc : isOp c = true) (x : ByteArray) (h1 : 1 ≤ x.size) (h2 : x.size ≤ 1000000) (w : World) : Calls Tryz.prog (fA c) #[.string x] w fun e w' => e = .returned (.string (B (app1 c (L x)))) ∧ Below w.heap.size w w' := by
  have hadd : ∀ (a b : ByteArray) (W : World), a.size + b.size ≤ 9000000 → (Op.stringOp .add a b).run Tryz.prog W = .ok (.string (a ++ b)) W := fun a b W h => run_string_add_sum W a b (by omega)
  rcases isOp_cases hc with rfl | rfl | rfl | rfl | rfl
  · have e : B (app1 51 (L x)) = x ++ ⟨#[50]⟩ ++ x := (B_of (by rw [L_append, L_append, List.append_assoc]; rfl)).symm
    show Calls Tryz.prog 300 _ _ _
    rw [e]
    go_enter Tryz.func300, Tryz.ntmps300
    go_wp2
    go_ret
    exact ⟨rfl, Below.refl _ _⟩
  · show Calls Tryz.prog 102 _ _ _
    exact parrot_reversed.calls x (B (L x).reverse) w (by unfold parrot_reversed.f; rw [if_pos h2])
  · have e : B (app1 53 (L x)) = x ++ x := (B_of (by rw [L_append]; rfl)).symm
    show Calls Tryz.prog 305 _ _ _
    rw [e]
    go_enter Tryz.func305, Tryz.ntmps305
    go_wp2
    go_ret
    exact ⟨rfl, Below.refl _ _⟩
  · have e : B (app1 54 (L x)) = x.extract 1 x.size := (B_of (by rw [L_extract, List.take_of_length_le (by rw [L_length]; exact Nat.le_refl _), List.drop_one]; rfl)).symm
    show Calls Tryz.prog 308 _ _ _
    rw [e]
    go_enter Tryz.func308, Tryz.ntmps308
    go_wp2
    go_ret
    exact ⟨rfl, Below.refl _ _⟩
  · have e : B (app1 55 (L x)) = ⟨#[49]⟩ ++ x := (B_of (by rw [L_append]; rfl)).symm
    show Calls Tryz.prog 311 _ _ _
    rw [e]
    go_enter Tryz.func311, Tryz.ntmps311
    go_wp2
    go_ret
    exact ⟨rfl, Below.refl _ _⟩
theorem fA_run {c : UInt8} (hc : isOp c = true) : ∃ fn, Tryz.prog.funcs[fA c]? = some fn ∧ (fn.name == "runtime.NumGoroutine") = false ∧ fn.body.isSome = true := by
  rcases isOp_cases hc with rfl | rfl | rfl | rfl | rfl
  · exact ⟨_, Tryz.func300, by kernel_rfl, by kernel_rfl⟩
  · exact ⟨_, Tryz.func102, by kernel_rfl, by kernel_rfl⟩
  · exact ⟨_, Tryz.func305, by kernel_rfl, by kernel_rfl⟩
  · exact ⟨_, Tryz.func308, by kernel_rfl, by kernel_rfl⟩
  · exact ⟨_, Tryz.func311, by kernel_rfl, by kernel_rfl⟩
theorem fL_run {c : UInt8} (hc : isOp c = true) : ∃ fn, Tryz.prog.funcs[fL c]? = some fn ∧ (fn.name == "runtime.NumGoroutine") = false ∧ fn.body.isSome = true := by
  rcases isOp_cases hc with rfl | rfl | rfl | rfl | rfl
  · exact ⟨_, Tryz.func301, by kernel_rfl, by kernel_rfl⟩
  · exact ⟨_, Tryz.func303, by kernel_rfl, by kernel_rfl⟩
  · exact ⟨_, Tryz.func306, by kernel_rfl, by kernel_rfl⟩
  · exact ⟨_, Tryz.func309, by kernel_rfl, by kernel_rfl⟩
  · exact ⟨_, Tryz.func312, by kernel_rfl, by kernel_rfl⟩
def aL (o : List UInt8) (w : List UInt8) : List UInt8 × Int := if w.length > 100000 then ([], 8) else applL o.reverse w
def parrot_applied.f (o w : ByteArray) : Option (ByteArray × Int) := if o.size ≤ 300000 ∧ (L o).all isOp = true ∧ 1 ≤ w.size ∧ w.size ≤ 1000000 then some (B (aL (L o) (L w)).1, (aL (L o) (L w)).2) else none
theorem byte_at (s : ByteArray) (i : Nat) (h : i < s.size) : (L s)[i]? = some (s[i]'h) := by
  show s.data.toList[i]? = some (s.data[i]'h)
  rw [Array.getElem?_toList, Array.getElem?_eq_getElem h]
theorem drop_at (s : ByteArray) (i : Nat) (h : i < s.size) : (L s).drop i = s[i]'h :: (L s).drop (i + 1) := by
  have hl : i < (L s).length := h
  rw [List.drop_eq_getElem_cons hl]
  congr 1
theorem op_ascii {c : UInt8} (h : isOp c = true) : c.toNat < 128 := by
  rcases isOp_cases h with rfl | rfl | rfl | rfl | rfl <;> decide
set_option maxHeartbeats 2000000 in
set_option maxRecDepth 100000 in
theorem parrot_applied.calls (a0 a1 : ByteArray) (r1 : ByteArray) (r2 : Int) (w : World) (hO : Ops w) (h : parrot_applied.f a0 a1 = some (r1, r2)) :
    Calls Tryz.prog 61 #[.string a0, .string a1] w fun e w' => e = .returned (.tuple #[.string r1, .int .i64 r2]) ∧ Below w.heap.size w w' := by
  unfold parrot_applied.f at h
  by_cases hg : a0.size ≤ 300000 ∧ (L a0).all isOp = true ∧ 1 ≤ a1.size ∧ a1.size ≤ 1000000
  · rw [if_pos hg] at h
    obtain ⟨g1, g2, g3, g4⟩ := hg
    simp only [Option.some.injEq, Prod.mk.injEq] at h
    obtain ⟨hr1, hr2⟩ := h
    unfold aL at hr1 hr2
    rw [L_length] at hr1 hr2
    by_cases c0 : a1.size > 100000
    · rw [if_pos c0] at hr1 hr2
      subst hr1 hr2
      have c0' : decide ((100000 : Int) < (a1.size : Int)) = true := decide_eq_true (by omega)
      go_enter Tryz.func61, Tryz.ntmps61
      go_wp2
      go_ret2
      exact ⟨rfl, Below.refl _ _⟩
    · rw [if_neg c0] at hr1 hr2
      have c0' : decide ((100000 : Int) < (a1.size : Int)) = false := decide_eq_false (by omega)
      have HR : Aside0 (applL (L a0).reverse (L a1) = (L r1, r2)) := ⟨by rw [← hr1, ← hr2, L_B]⟩
      obtain ⟨rv, hrv⟩ : ∃ rv, B (L a0).reverse = rv := ⟨_, rfl⟩
      have hrev := fun w => parrot_reversed.calls a0 rv w (by unfold parrot_reversed.f; rw [if_pos (by omega), hrv])
      have hLr : L rv = (L a0).reverse := by rw [← hrv, L_B]
      have HA : Aside0 (∀ (i : Nat) (hi : i < rv.size), isOp (rv[i]'hi) = true) := ⟨fun i hi => by
        have h1 := byte_at rv i hi
        rw [hLr] at h1
        exact List.all_eq_true.1 g2 _ (List.mem_reverse.1 (List.mem_of_getElem? h1))⟩
      rw [← hLr] at HR
      clear hr1 hr2 g2 hrv hLr
      go_enter Tryz.func61, Tryz.ntmps61
      go_wp2_with (go_at_call 102; refine (hrev _).mono ?_; rintro e w1 ⟨rfl, hb1⟩; clear hrev)
      have HB1 := Aside0.mk hb1
      go_loopg [1] rv.size (fun q v1 wr => ∃ (i : Nat) (x : ByteArray), v1 = .string x ∧ i + q = rv.size ∧ 1 ≤ x.size ∧ x.size ≤ 100000 ∧ Aside0 (applL ((L rv).drop i) (L x) = (L r1, r2)) ∧ wr.heap[w1.heap.size]? = some (.stringIter rv i) ∧ Aside0 (Below w.heap.size w wr))
      case atStart => exact ⟨0, a1, rfl, by omega, g3, by omega, HR, World.iter_heap w1 rv 0, ⟨below_alloc hb1 _⟩⟩
      case round =>
        clear HR
        obtain ⟨i, x, rfl, hiq, hx1, hx2, HR, hit, HBw⟩ := hrel
        by_cases hlt : i < rv.size
        · obtain ⟨q, rfl⟩ : ∃ q, gk = q + 1 := ⟨gk - 1, by omega⟩
          have hop := HA.out i hlt
          have hnx := fun ty => Lib.run_next_ascii_at (P := Tryz.prog) wr w1.heap.size rv i ty hit hlt (op_ascii hop)
          have hd := drop_at rv i hlt
          rw [hd] at HR
          obtain ⟨c, hc⟩ : ∃ c, rv[i]'hlt = c := ⟨_, rfl⟩
          rw [hc] at HR hop hnx
          have hkW : w.heap.size ≤ w1.heap.size := HB1.out.size
          have hit2 := Lib.iterAt_heap wr w1.heap.size rv i (i + 1) hit
          have HBw2 := Aside0.mk (Lib.below_iterAt HBw.out (k := w1.heap.size) hkW rv (i + 1))
          obtain ⟨W1, hW1⟩ : ∃ W1, wr.iterAt w1.heap.size rv (i + 1) = W1 := ⟨_, rfl⟩
          rw [hW1] at hnx hit2 HBw2
          obtain ⟨bm, hG, hlk⟩ := (hO.below HBw2.out).look
          replace hlk := ((hlk W1 rfl).1 c hop).1
          obtain ⟨fl, hfl1, hfl2, hfl3⟩ := fL_run hop
          obtain ⟨fa, hfa1, hfa2, hfa3⟩ := fA_run hop
          have hcl := fun w => callL hop x.size hx1 (by omega) w
          have hca := fun w => callA hop x hx1 (by omega) w
          obtain ⟨n, hn⟩ : ∃ n, long1 c x.size = n := ⟨_, rfl⟩
          obtain ⟨nl, hnl⟩ : ∃ nl, fL c = nl := ⟨_, rfl⟩
          obtain ⟨na, hna⟩ : ∃ na, fA c = na := ⟨_, rfl⟩
          obtain ⟨nb, hnb⟩ : ∃ nb, fB c = nb := ⟨_, rfl⟩
          unfold opVal at hlk
          rw [hnl, hna, hnb] at hlk
          rw [hnl] at hfl1
          rw [hna] at hfa1
          rw [hnl, hn] at hcl
          rw [hna] at hca
          have hr := HR.out
          rw [applL, L_length, hn] at hr
          clear HR hd hc hW1 hit HBw hnl hna hnb
          by_cases d1 : n = 0
          · rw [if_pos d1] at hr
            subst d1
            have hr := (Prod.mk.injEq _ _ _ _).mp hr
            obtain ⟨hr1, rfl⟩ := hr
            have hr1 : r1 = ⟨#[]⟩ := (B_of hr1.symm)
            subst hr1
            go_wp2_with (first | ((with_reducible refine Goes.gate_slot (t := 23) rfl ?_); refine Goes.goesTL (some 26) rfl rfl hfl1 hfl2 hfl3 #[.int .i64 (x.size : Int)] rfl (by (try simp only [List.map_toArray, List.map_cons, List.map_nil]); first | done | rfl) ?_; refine (hcl _).mono ?_; rintro e w' ⟨rfl, rfl⟩; refine ⟨_, rfl, ?_⟩))
            go_ret2
            exact ⟨rfl, below_alloc HBw2.out _⟩
          · rw [if_neg d1] at hr
            have d1' : ((n : Int) == 0) = false := beq_eq_false_iff_ne.2 (by omega)
            by_cases d2 : n > 100000
            · rw [if_pos d2] at hr
              have hr := (Prod.mk.injEq _ _ _ _).mp hr
              obtain ⟨hr1, rfl⟩ := hr
              have hr1 : r1 = ⟨#[]⟩ := (B_of hr1.symm)
              subst hr1
              have d2' : decide ((100000 : Int) < (n : Int)) = true := decide_eq_true (by omega)
              go_wp2_with (first | ((with_reducible refine Goes.gate_slot (t := 23) rfl ?_); refine Goes.goesTL (some 26) rfl rfl hfl1 hfl2 hfl3 #[.int .i64 (x.size : Int)] rfl (by (try simp only [List.map_toArray, List.map_cons, List.map_nil]); first | done | rfl) ?_; refine (hcl _).mono ?_; rintro e w' ⟨rfl, rfl⟩; refine ⟨_, rfl, ?_⟩))
              go_ret2
              exact ⟨rfl, below_alloc HBw2.out _⟩
            · rw [if_neg d2] at hr
              have d2' : decide ((100000 : Int) < (n : Int)) = false := decide_eq_false (by omega)
              have hs : (B (app1 c (L x))).size = n := by rw [B_size, app1_length, L_length, hn]
              obtain ⟨y, hy⟩ : ∃ y, B (app1 c (L x)) = y := ⟨_, rfl⟩
              rw [hy] at hca hs
              have HR2 : Aside0 (applL ((L rv).drop (i + 1)) (L y) = (L r1, r2)) := ⟨by rw [← hy, L_B]; exact hr⟩
              have hit3 := (Below.heap_alloc W1 (.cells #[.func (.func na) #[] #[], .func (.func nl) #[] #[], .func (.func nb) #[] #[]] 169) w1.heap.size (Array.getElem?_eq_some_iff.1 hit2).1).trans hit2
              have HBw3 := Aside0.mk (below_alloc HBw2.out (.cells #[.func (.func na) #[] #[], .func (.func nl) #[] #[], .func (.func nb) #[] #[]] 169))
              have hlt2 := (Array.getElem?_eq_some_iff.1 hit3).1
              clear hr hn hy
              go_wp2_with (first | ((with_reducible refine Goes.gate_slot (t := 23) rfl ?_); refine Goes.goesTL (some 26) rfl rfl hfl1 hfl2 hfl3 #[.int .i64 (x.size : Int)] rfl (by (try simp only [List.map_toArray, List.map_cons, List.map_nil]); first | done | rfl) ?_; refine (hcl _).mono ?_; rintro e w' ⟨rfl, rfl⟩; refine ⟨_, rfl, ?_⟩) | ((with_reducible refine Goes.gate_slot rfl ?_); refine Goes.goesTL _ rfl rfl hfa1 hfa2 hfa3 #[.string x] rfl (by (try simp only [List.map_toArray, List.map_cons, List.map_nil]); first | done | rfl) ?_; refine (hca _).mono ?_; rintro e w3 ⟨rfl, hb3⟩; have hit4 := (hb3.5 _ hlt2).trans hit3; have HBw4 := Aside0.mk (HBw3.out.trans (hb3.mono HBw3.out.size)); clear hit3 HBw3; refine ⟨_, rfl, ?_⟩))
              go_roundg q
              case measure => omega
              case rel => exact ⟨i + 1, y, rfl, by omega, by omega, by omega, HR2, hit4, HBw4⟩
        · obtain rfl : gk = 0 := by omega
          obtain rfl : i = rv.size := by omega
          have hnx := fun ty => Lib.run_next_end_at (P := Tryz.prog) wr w1.heap.size rv rv.size ty hit (by omega)
          have hr := HR.out
          rw [List.drop_of_length_le (by rw [L_length]; exact Nat.le_refl _), applL] at hr
          have hr := (Prod.mk.injEq _ _ _ _).mp hr
          obtain ⟨hr1, rfl⟩ := hr
          have hr1 : r1 = x := by rw [← B_L r1, ← hr1, B_L]
          subst hr1
          clear HR
          go_wp2
          go_ret2
          exact ⟨rfl, HBw.out⟩
  · rw [if_neg hg] at h; cases h
end Go.Proofs.YtldohjlcckbfaaaGreatDoor.Hand
namespace Go.Proofs.YtldohjlcckbfaaaGreatDoor.Hand
open Go.RowKit Go.Proofs.YtldohjlcckbfaaaGreatDoorW.PrintWords Go.Proofs.YtldohjlcckbfaaaGreatDoorW.PrintLast Go.Proofs.YtldohjlcckbfaaaGreatDoorW.PrintMore
set_option linter.unusedVariables false
set_option linter.unusedSimpArgs false
open Go.Maps Go.Proofs.YtldohjlcckbfaaaGreatDoor.MathP Go.Proofs.YtldohjlcckbfaaaGreatDoor.Goes
def partsZ (pre : List UInt8) : List UInt8 → List UInt8 × List UInt8 × Bool
  | [] => ([], [], false)
  | c :: cs => if c = 50 then (pre, cs, !cs.isEmpty) else if isOp c = true then partsZ (pre ++ [c]) cs else ([], [], false)
theorem parts_op {c : UInt8} {cs : List UInt8} (h : isOp c = true) : parts (c :: cs) = (parts cs).map fun q => (c :: q.1, q.2) := by
  unfold parts
  rw [List.dropWhile_cons, if_pos h, List.takeWhile_cons, if_pos h]
  split
  · split <;> rfl
  · rfl
theorem partsZ_some (w : List UInt8) : ∀ (pre o x : List UInt8), parts w = some (o, x) → partsZ pre w = (pre ++ o, x, true) := by
  induction w with
  | nil => intro pre o x h; cases h
  | cons c cs ih =>
    intro pre o x h
    rw [partsZ]
    by_cases h0 : c = 50
    · subst h0
      unfold parts at h
      rw [List.dropWhile_cons, if_neg (by decide), List.takeWhile_cons, if_neg (by decide)] at h
      cases cs with
      | nil => cases h
      | cons y ys =>
        simp at h
        obtain ⟨rfl, rfl⟩ := h
        simp
    · rw [if_neg h0]
      by_cases h1 : isOp c = true
      · rw [if_pos h1]
        rw [parts_op h1] at h
        cases hp : parts cs with
        | none => rw [hp] at h; cases h
        | some q =>
          rw [hp] at h
          obtain ⟨o1, x1⟩ := q
          simp at h
          obtain ⟨rfl, rfl⟩ := h
          rw [ih _ _ _ hp]
          simp
      · unfold parts at h
        rw [List.dropWhile_cons, if_neg h1] at h
        cases cs with
        | nil => cases h
        | cons y ys => simp [h0] at h
theorem partsZ_none (w : List UInt8) : ∀ (pre : List UInt8), parts w = none → (partsZ pre w).2.2 = false := by
  induction w with
  | nil => intro pre h; rfl
  | cons c cs ih =>
    intro pre h
    rw [partsZ]
    by_cases h0 : c = 50
    · subst h0
      rw [if_pos rfl]
      unfold parts at h
      rw [List.dropWhile_cons, if_neg (by decide)] at h
      cases cs with
      | nil => rfl
      | cons y ys => simp at h
    · rw [if_neg h0]
      by_cases h1 : isOp c = true
      · rw [if_pos h1]
        rw [parts_op h1] at h
        cases hp : parts cs with
        | none => exact ih _ hp
        | some q => rw [hp] at h; cases h
      · rw [if_neg h1]
theorem dig_ascii {c : UInt8} (h : isDig c = true) : c.toNat < 128 := by
  unfold isDig at h
  have := (of_decide_eq_true h).2
  have := UInt8.le_iff_toNat_le.1 this
  simp at this; omega
set_option maxHeartbeats 2000000 in
set_option maxRecDepth 100000 in
theorem parts_main (a0 : ByteArray) (hd : (L a0).all isDig = true) (hs : a0.size ≤ 1000000) (w : World) (hO : Ops w) :
    Calls Tryz.prog 60 #[.string a0] w fun e w' => e = .returned (.tuple #[.string (B (partsZ [] (L a0)).1), .string (B (partsZ [] (L a0)).2.1), .bool (partsZ [] (L a0)).2.2]) ∧ Below w.heap.size w w' := by
  have mixed : Tryz.prog.follows Departure.mixedOrders = true := by kernel_rfl
  have hwi : ∀ n, IntKind.i64.wrap n = wrap64 n := i64_w
  have HR0 : Aside0 (partsZ ((L a0).take 0) ((L a0).drop 0) = partsZ [] (L a0)) := ⟨rfl⟩
  obtain ⟨t1, t2, t3, ht⟩ : ∃ t1 t2 t3, partsZ [] (L a0) = (t1, t2, t3) := ⟨_, _, _, rfl⟩
  rw [ht] at HR0 ⊢
  have HA : Aside0 (∀ (i : Nat) (hi : i < a0.size), isDig (a0[i]'hi) = true) := ⟨fun i hi => List.all_eq_true.1 hd _ (List.mem_of_getElem? (byte_at a0 i hi))⟩
  clear ht hd
  go_enter Tryz.func60, Tryz.ntmps60
  go_wp2
  go_loopg [5] a0.size (fun q v5 wr => ∃ (i : Nat), i + q = a0.size ∧ Aside0 (partsZ ((L a0).take i) ((L a0).drop i) = (t1, t2, t3)) ∧ wr.heap[w.heap.size]? = some (.stringIter a0 i) ∧ Aside0 (Below w.heap.size w wr))
  case atStart => exact ⟨0, by omega, HR0, World.iter_heap w a0 0, ⟨below_alloc (Below.refl _ _) _⟩⟩
  case round =>
    clear HR0
    obtain ⟨i, hiq, HR, hit, HBw⟩ := hrel
    by_cases hlt : i < a0.size
    · obtain ⟨q, rfl⟩ : ∃ q, gk = q + 1 := ⟨gk - 1, by omega⟩
      have hdg := HA.out i hlt
      have hnx := fun ty => Lib.run_next_ascii_at (P := Tryz.prog) wr w.heap.size a0 i ty hit hlt (dig_ascii hdg)
      have hdr := drop_at a0 i hlt
      rw [hdr] at HR
      have htk : (L a0).take (i + 1) = (L a0).take i ++ [a0[i]'hlt] := by rw [List.take_add_one, byte_at a0 i hlt]; rfl
      obtain ⟨c, hc⟩ : ∃ c, a0[i]'hlt = c := ⟨_, rfl⟩
      rw [hc] at HR hdg hnx htk
      have hit2 := Lib.iterAt_heap wr w.heap.size a0 i (i + 1) hit
      have HBw2 := Aside0.mk (Lib.below_iterAt HBw.out (k := w.heap.size) (Nat.le_refl _) a0 (i + 1))
      obtain ⟨W1, hW1⟩ : ∃ W1, wr.iterAt w.heap.size a0 (i + 1) = W1 := ⟨_, rfl⟩
      rw [hW1] at hnx hit2 HBw2
      have hr := HR.out
      rw [partsZ] at hr
      have hi1 : wrap64 ((i : Int) + 1) = ((i + 1 : Nat) : Int) := by unfold wrap64; omega
      have hle0 : (i : Int) ≤ (a0.size : Int) := by omega
      have hle1 : ((i + 1 : Nat) : Int) ≤ (a0.size : Int) := by omega
      by_cases c0 : c = 50
      · rw [if_pos c0] at hr
        have hc50 : ((c.toNat : Int) == 50) = true := beq_iff_eq.2 (by rw [c0]; rfl)
        have hr := (Prod.mk.injEq _ _ _ _).mp hr
        obtain ⟨hr1, hr2⟩ := hr
        have hr2 := (Prod.mk.injEq _ _ _ _).mp hr2
        obtain ⟨hr2, hr3⟩ := hr2
        have e1 : a0.extract 0 i = B t1 := B_of (by rw [L_extract, List.drop_zero, hr1])
        have e2 : a0.extract (i + 1) a0.size = B t2 := B_of (by rw [L_extract, List.take_of_length_le (by rw [L_length]; exact Nat.le_refl _), hr2])
        have e3 : decide ((i : Int) + 1 < (a0.size : Int)) = t3 := by
          rw [← hr3]
          have hlen : ((L a0).drop (i + 1)).length = a0.size - (i + 1) := by rw [List.length_drop, L_length]
          cases hcs : (L a0).drop (i + 1) with
          | nil => rw [hcs] at hlen; simp at hlen; simp; omega
          | cons y ys => rw [hcs] at hlen; simp at hlen; simp; omega
        clear hr1 hr2 hr3 HR hdr htk hc hW1 hit HBw c0
        go_wp2
        go_region
        go_wp2
        go_ret3
        exact ⟨rfl, below_drew HBw2.out⟩
      · rw [if_neg c0] at hr
        have hc50 : ((c.toNat : Int) == 50) = false := beq_eq_false_iff_ne.2 (fun e => c0 (UInt8.toNat_inj.1 (by simpa using Int.ofNat.inj e)))
        obtain ⟨bm, hG, hlk⟩ := (hO.below HBw2.out).look
        by_cases c1 : isOp c = true
        · rw [if_pos c1] at hr
          replace hlk := ((hlk W1 rfl).1 c c1).2
          have HR2 : Aside0 (partsZ ((L a0).take (i + 1)) ((L a0).drop (i + 1)) = (t1, t2, t3)) := ⟨by rw [htk]; exact hr⟩
          clear hr HR hdr htk hc hW1 hit HBw c0
          unfold opVal at hlk
          have hit3 := (Below.heap_alloc W1 (.cells #[.func (.func (fA c)) #[] #[], .func (.func (fL c)) #[] #[], .func (.func (fB c)) #[] #[]] 169) w.heap.size (Array.getElem?_eq_some_iff.1 hit2).1).trans hit2
          have HBw3 := Aside0.mk (below_alloc HBw2.out (.cells #[.func (.func (fA c)) #[] #[], .func (.func (fL c)) #[] #[], .func (.func (fB c)) #[] #[]] 169))
          go_wp2
          go_roundg q
          case measure => omega
          case rel => exact ⟨i + 1, by omega, HR2, hit3, HBw3⟩
        · rw [if_neg c1] at hr
          replace hlk := (hlk W1 rfl).2 c (by simpa using c1)
          have hr := (Prod.mk.injEq _ _ _ _).mp hr
          obtain ⟨hr1, hr2⟩ := hr
          have hr2 := (Prod.mk.injEq _ _ _ _).mp hr2
          obtain ⟨hr2, hr3⟩ := hr2
          subst hr1 hr2 hr3
          unfold zeroOp at hlk
          clear HR hdr htk hc hW1 hit HBw c0
          go_wp2
          go_ret3
          exact ⟨rfl, below_alloc HBw2.out _⟩
    · obtain rfl : gk = 0 := by omega
      obtain rfl : i = a0.size := by omega
      have hnx := fun ty => Lib.run_next_end_at (P := Tryz.prog) wr w.heap.size a0 a0.size ty hit (by omega)
      have hr := HR.out
      rw [List.drop_of_length_le (by rw [L_length]; exact Nat.le_refl _), partsZ] at hr
      have hr := (Prod.mk.injEq _ _ _ _).mp hr
      obtain ⟨hr1, hr2⟩ := hr
      have hr2 := (Prod.mk.injEq _ _ _ _).mp hr2
      obtain ⟨hr2, hr3⟩ := hr2
      subst hr1 hr2 hr3
      clear HR
      go_wp2
      go_ret3
      exact ⟨rfl, HBw.out⟩
theorem parts_all {w o x : List UInt8} (h : parts w = some (o, x)) : o.all isOp = true ∧ x ≠ [] ∧ o.length + x.length ≤ w.length := by
  obtain ⟨rfl, h1, h2⟩ := parts_some h
  exact ⟨h1, h2, by rw [List.length_append, List.length_cons]; omega⟩
def parrot_made.f (s : ByteArray) : Option (ByteArray × Int) := if (L s).all isDig = true ∧ s.size ≤ 100000 then some (B (says (L s)).1, (says (L s)).2) else none
set_option maxRecDepth 100000 in
theorem parrot_made.calls (a0 : ByteArray) (r1 : ByteArray) (r2 : Int) (w : World) (hO : Ops w) (h : parrot_made.f a0 = some (r1, r2)) :
    Calls Tryz.prog 31 #[.string a0] w fun e w' => e = .returned (.tuple #[.string r1, .int .i64 r2]) ∧ Below w.heap.size w w' := by
  unfold parrot_made.f at h
  by_cases hg : (L a0).all isDig = true ∧ a0.size ≤ 100000
  · rw [if_pos hg] at h
    simp only [Option.some.injEq, Prod.mk.injEq] at h
    obtain ⟨rfl, rfl⟩ := h
    have hpm := parts_main a0 hg.1 (by omega) w hO
    cases hp : parts (L a0) with
    | none =>
      have hsy : says (L a0) = ([], 10) := by unfold says; rw [hp]
      rw [hsy]
      have hf := partsZ_none (L a0) [] hp
      obtain ⟨t1, t2, t3, ht⟩ : ∃ t1 t2 t3, partsZ [] (L a0) = (t1, t2, t3) := ⟨_, _, _, rfl⟩
      rw [ht] at hpm hf
      have hf : t3 = false := hf
      subst hf
      show Calls Tryz.prog 31 #[.string a0] w fun e w' => e = .returned (.tuple #[.string ⟨#[]⟩, .int .i64 10]) ∧ Below w.heap.size w w'
      go_enter Tryz.func31, Tryz.ntmps31
      go_wp2_with (go_at_call 60; refine hpm.mono ?_; rintro e w1 ⟨rfl, hb1⟩)
      go_ret2
      exact ⟨rfl, hb1⟩
    | some q =>
      obtain ⟨o, x⟩ := q
      have hz := partsZ_some (L a0) [] o x hp
      rw [hz] at hpm
      obtain ⟨h1, h2, h3⟩ := parts_all hp
      have hl : (L a0).length = a0.size := rfl
      have hx : 0 < x.length := List.length_pos_iff.2 h2
      have hap : ∀ w, Ops w → _ := fun w hw => parrot_applied.calls (B o) (B x) (B (applL o.reverse x).1) (applL o.reverse x).2 w hw (by
        unfold parrot_applied.f aL
        rw [L_B, L_B, B_size, B_size, if_pos ⟨by omega, h1, by omega, by omega⟩, if_neg (by omega)])
      have hsy : says (L a0) = applL o.reverse x := by unfold says; rw [hp]
      rw [hsy]
      clear hz hsy hp
      simp only [List.nil_append] at hpm
      go_enter Tryz.func31, Tryz.ntmps31
      go_wp2_with (first | (go_at_call 60; refine hpm.mono ?_; rintro e w1 ⟨rfl, hb1⟩) | (go_at_call 61; refine (hap _ (hO.below hb1)).mono ?_; rintro e w2 ⟨rfl, hb2⟩))
      go_ret2
      exact ⟨rfl, hb1.trans (hb2.mono hb1.size)⟩
  · rw [if_neg hg] at h; cases h
end Go.Proofs.YtldohjlcckbfaaaGreatDoor.Hand
namespace Go.Proofs.YtldohjlcckbfaaaGreatDoor.Hand
open Go.RowKit Go.Proofs.YtldohjlcckbfaaaGreatDoorW.PrintWords Go.Proofs.YtldohjlcckbfaaaGreatDoorW.PrintLast Go.Proofs.YtldohjlcckbfaaaGreatDoorW.PrintMore
set_option linter.unusedVariables false
set_option linter.unusedSimpArgs false
open Go.Maps Go.Proofs.YtldohjlcckbfaaaGreatDoor.MathP Go.Proofs.YtldohjlcckbfaaaGreatDoor.Goes
def makeF (s : ByteArray) : ByteArray × Int := if wordE (L s) = 0 then (B (says (L s)).1, (says (L s)).2) else (⟨#[]⟩, wordE (L s))
set_option maxRecDepth 100000 in
theorem make_calls (a0 : ByteArray) (w : World) (hO : Ops w) :
    Calls Tryz.prog 12 #[.string a0] w fun e w' => e = .returned (.tuple #[.string (makeF a0).1, .int .i64 (makeF a0).2]) ∧ Below w.heap.size w w' := by
  have hw := Aside0.mk (parrot_word.calls a0 (wordE (L a0)) w rfl)
  by_cases h0 : wordE (L a0) = 0
  · have hM : makeF a0 = (B (says (L a0)).1, (says (L a0)).2) := by unfold makeF; rw [if_pos h0]
    have hd : digE (L a0) = 0 := by
      unfold wordE at h0
      by_cases c : digE (L a0) = 0
      · exact c
      · rw [if_pos c] at h0; exact h0
    obtain ⟨d1, d2⟩ := digE_ok.1 hd
    have hm := Aside0.mk (fun w1 hO1 => parrot_made.calls a0 (B (says (L a0)).1) (says (L a0)).2 w1 hO1 (by
      unfold parrot_made.f
      rw [if_pos ⟨d2, by rw [L_length] at d1; omega⟩]))
    rw [hM]
    obtain ⟨r1, hr1⟩ : ∃ r, B (says (L a0)).1 = r := ⟨_, rfl⟩
    obtain ⟨r2, hr2⟩ : ∃ r, (says (L a0)).2 = r := ⟨_, rfl⟩
    rw [hr1, hr2] at hm ⊢
    rw [h0] at hw
    clear hM hd d1 d2 hr1 hr2 h0
    go_enter Tryz.func12, Tryz.ntmps12
    go_wp2_with (first | (go_at_call 30; refine hw.out.mono ?_; rintro e w1 ⟨rfl, hb1⟩; have HB1 := Aside0.mk hb1; clear hb1) | (go_at_call 31; refine (hm.out _ (hO.below HB1.out)).mono ?_; rintro e w2 ⟨rfl, hb2⟩; have HB2 := Aside0.mk (HB1.out.trans (hb2.mono HB1.out.size)); clear hb2))
    go_ret2
    exact ⟨rfl, HB2.out⟩
  · have hM : makeF a0 = (⟨#[]⟩, wordE (L a0)) := by unfold makeF; rw [if_neg h0]
    rw [hM]
    obtain ⟨r2, hr2⟩ : ∃ r, wordE (L a0) = r := ⟨_, rfl⟩
    rw [hr2] at hw h0 ⊢
    have c' : (r2 != 0) = true := bne_iff_ne.2 h0
    clear hM hr2 h0
    go_enter Tryz.func12, Tryz.ntmps12
    go_wp2_with (go_at_call 30; refine hw.out.mono ?_; rintro e w1 ⟨rfl, hb1⟩; have HB1 := Aside0.mk hb1; clear hb1)
    go_ret2
    exact ⟨rfl, HB1.out⟩
end Go.Proofs.YtldohjlcckbfaaaGreatDoor.Hand
namespace Go.Proofs.YtldohjlcckbfaaaGreatDoor.Hand
open Go.RowKit Go.Proofs.YtldohjlcckbfaaaGreatDoorW.PrintWords Go.Proofs.YtldohjlcckbfaaaGreatDoorW.PrintLast Go.Proofs.YtldohjlcckbfaaaGreatDoorW.PrintMore
set_option linter.unusedVariables false
set_option linter.unusedSimpArgs false
open Go.Proofs.YtldohjlcckbfaaaGreatDoor.Pre
theorem own_R {w : World} {base n : Nat} {v : Value} {xs : List Int} (h : w.ownsRow base 3 1 v n (nums .i64 xs)) (hl : xs.length = n) : Kd.R (Kd.int .i64) 3 w base (fun _ => True) v xs := by
  subst hl
  refine ⟨fun _ _ => trivial, _, h, by simp [nums_length, Kd.int, Kd.scalar], fun j p hj => ?_⟩
  have hjl := (List.getElem?_eq_some_iff.1 hj)
  obtain ⟨h1, h2⟩ := hjl
  subst h2
  simp [Kd.int, Kd.scalar, nums, List.take_one, h1]
theorem C_of_own {w : World} {base n : Nat} {v : Value} {xs : List Int} (h : w.ownsRow base 3 1 v n (nums .i64 xs)) (hl : xs.length = n) : ∃ A c, v = .slice A n c ∧ n ≤ c ∧ Kd.C (Kd.int .i64) w A n xs := by
  subst hl
  have hR := own_R h rfl
  obtain ⟨A, c, rfl⟩ := Kd.R_slice hR
  exact ⟨A, c, rfl, (Kd.R_reads' hR).2.1, (Kd.R_reads' hR).2.2⟩
end Go.Proofs.YtldohjlcckbfaaaGreatDoor.Hand
