import Derived.Test.YtcjbnonjhahakaaDoorProg
import Derived.Below
import Derived.Deep.Draws
import Derived.Deep.AppendLies
import Derived.Maps.AppendAt
import Derived.OwnWalk
import Derived.Laws.BytesArg
import Derived.Laws.MakeOwn
import Derived.Laws.OwnMore
import Derived.Deep.OwnRows
import Derived.Tactics
import Derived.Lib.ConvBytes
import Derived.Laws.Slices
import Derived.WalkKit
import Derived.KernelRfl
import Derived.RowKit3
import Derived.Deep.LoopGhost
import Derived.Deep.QuietTactic
import Derived.BigQuiet
import Derived.WideLaws
import Derived.Deep.DeepCutAuto
import Derived.Deep.CutBlock
import Derived.Deep.RegionHeld3
import Derived.Laws.Rows
import Derived.Lib.AppendStr
import Derived.ArgAppend
import Derived.Laws.IdiomCopy
import Derived.OrdersHeld
import Derived.Laws.BitsLemmas
import Derived.RowKit
import Derived.Test.YtcjbnonjhahakaaDoorWWords
import Derived.Test.YtcjbnonjhahakaaDoorWLast
import Derived.Test.YtcjbnonjhahakaaDoorWTab
import Derived.Test.YtcjbnonjhahakaaDoorWFour
import Derived.Test.YtcjbnonjhahakaaDoorWQPut
import Derived.Test.YtcjbnonjhahakaaDoorWApart
import Derived.Test.YtcjbnonjhahakaaDoorWArr
import Derived.Test.YtcjbnonjhahakaaDoorWZeros
import Derived.Test.YtcjbnonjhahakaaDoorWFoot
import Derived.Test.YtcjbnonjhahakaaDoorWKept
import Derived.Test.YtcjbnonjhahakaaDoorWShare
import Derived.Test.YtcjbnonjhahakaaDoorWN
import Derived.Test.YtcjbnonjhahakaaDoorWFootNe
import Derived.Test.YtcjbnonjhahakaaDoorWAt
import Derived.Test.YtcjbnonjhahakaaDoorWEqStruct
import Derived.Test.YtcjbnonjhahakaaDoorWRepsOne
import Derived.Test.YtcjbnonjhahakaaDoorWInv
import Derived.Test.YtcjbnonjhahakaaDoorWInvWords
import Derived.Test.YtcjbnonjhahakaaDoorWGuard
import Derived.Test.YtcjbnonjhahakaaDoorWNEv
import Derived.Test.YtcjbnonjhahakaaDoorWMore
import Derived.Test.YtcjbnonjhahakaaDoorHandA
import Derived.Test.YtcjbnonjhahakaaDoorGoes
import Derived.Maps.OwnSet
import Derived.LaidMore
import Derived.Lib.OthersKept
import Derived.Laws.RangeString
import Derived.Laws.EntriesVeiled
namespace Go.Proofs.YtcjbnonjhahakaaDoor.Hand
open Go.RowKit Go.Proofs.YtcjbnonjhahakaaDoorW.PrintWords Go.Proofs.YtcjbnonjhahakaaDoorW.PrintLast Go.Proofs.YtcjbnonjhahakaaDoorW.PrintMore
set_option linter.unusedVariables false
set_option linter.unusedSimpArgs false

/-! The table of operations. -/
open Go.Maps Go.Proofs.YtcjbnonjhahakaaDoor.Math Go.Proofs.YtcjbnonjhahakaaDoor.Goes
def fA (c : UInt8) : Nat := if c = 51 then 124 else if c = 52 then 44 else if c = 53 then 129 else if c = 54 then 132 else 135
def fL (c : UInt8) : Nat := if c = 51 then 125 else if c = 52 then 127 else if c = 53 then 130 else if c = 54 then 133 else 136
def fB (c : UInt8) : Nat := if c = 51 then 126 else if c = 52 then 128 else if c = 53 then 131 else if c = 54 then 134 else 137
def opVal (c : UInt8) : Value := .agg #[.func (.func (fA c)) #[] #[], .func (.func (fL c)) #[] #[], .func (.func (fB c)) #[] #[]]
def preN : List UInt8 := [112, 111, 109, 97, 100, 101, 47, 112, 97, 114, 114, 111, 116, 46, 111, 112, 101, 114, 97, 116, 105, 111, 110, 115, 36]
def nA (c : UInt8) : List UInt8 := if c = 51 then preN ++ [49] else if c = 52 then [112, 111, 109, 97, 100, 101, 47, 112, 97, 114, 114, 111, 116, 46, 114, 101, 118, 101, 114, 115, 101, 100] else if c = 53 then preN ++ [54] else if c = 54 then preN ++ [57] else preN ++ [49, 50]
def nL (c : UInt8) : List UInt8 := if c = 51 then preN ++ [50] else if c = 52 then preN ++ [52] else if c = 53 then preN ++ [55] else if c = 54 then preN ++ [49, 48] else preN ++ [49, 51]
def nB (c : UInt8) : List UInt8 := if c = 51 then preN ++ [51] else if c = 52 then preN ++ [53] else if c = 53 then preN ++ [56] else if c = 54 then preN ++ [49, 49] else preN ++ [49, 52]
def opD (c : UInt8) : DataW (List UInt8) := .agg [.held (nA c), .held (nL c), .held (nB c)]
def opsD : DataW (List UInt8) := .map [(.int .i32 51, opD 51), (.int .i32 52, opD 52), (.int .i32 53, opD 53), (.int .i32 54, opD 54), (.int .i32 55, opD 55)]
theorem isOp_cases {c : UInt8} (h : isOp c = true) : c = 51 ∨ c = 52 ∨ c = 53 ∨ c = 54 ∨ c = 55 := by
  have hh : ∀ n : Fin 256, isOp (UInt8.ofNat n) = true → UInt8.ofNat n = 51 ∨ UInt8.ofNat n = 52 ∨ UInt8.ofNat n = 53 ∨ UInt8.ofNat n = 54 ∨ UInt8.ofNat n = 55 := by decide +kernel
  have := hh ⟨c.toNat, c.toNat_lt⟩
  simpa [h] using this
/-- What start-up has laid in the table: the walks' hypothesis. -/
structure Ops (w : World) : Prop where
  ex : ∃ (bm : Nat) (es : Array MapEntry) (clock : Nat) (R : Value → Option (DataW (List UInt8) × List MemPlace)), w.cell? ⟨0, 0, none⟩ = some (.map (some bm)) ∧ w.heap[bm]? = some (.map es clock) ∧ WideElems.Fit Tryd.prog 21 R es clock ∧
    opsD = .map ((es.toList.map (WideElems.rg Tryd.prog 21 R)).foldr DataW.insert []) ∧ (∀ c : UInt8, isOp c = true → ∀ v ps, R v = some (opD c, ps) → v = opVal c)
theorem Ops.below {w w' : World} (h : Ops w) (hb : Below w.heap.size w w') : Ops w' := by
  obtain ⟨bm, es, clock, R, h1, h2, h3, h4, h5⟩ := h.ex
  have hlt : bm < w.heap.size := (Array.getElem?_eq_some_iff.1 h2).1
  have h0 : 0 < w.heap.size := by omega
  exact ⟨bm, es, clock, R, (hb.cell (p := ⟨0, 0, none⟩) h0).trans h1, (hb.5 bm hlt).trans h2, h3, h4, h5⟩
def zeroOp : Value := .agg #[.nilFunc, .nilFunc, .nilFunc]
theorem opsD_hit {c : UInt8} (h : isOp c = true) (zd : DataW (List UInt8)) : opsD.atKey (.int .i32 (c.toNat : Int)) zd = opD c := by
  rcases isOp_cases h with rfl | rfl | rfl | rfl | rfl <;> rfl
theorem opsD_miss {c : UInt8} (h : isOp c = false) (zd : DataW (List UInt8)) : opsD.atKey (.int .i32 (c.toNat : Int)) zd = zd := by
  refine atKey_of_not_has ?_ zd
  have hh : ∀ n : Fin 256, isOp (UInt8.ofNat n) = false → Maps.has opsD (.int .i32 ((UInt8.ofNat n).toNat : Int)) = false := by decide +kernel
  have := hh ⟨c.toNat, c.toNat_lt⟩
  simpa [h] using this
theorem key21 (c : UInt8) : keyOf Tryd.prog 21 (.int .i32 (c.toNat : Int)) = some (.int .i32 (c.toNat : Int)) := keyOf_int_mk Tryd.underlying21 (by
  have := c.toNat_lt
  simp [Lit.wf, IntKind.min, IntKind.max, IntKind.bits, IntKind.signed]; omega)
/-- The look-ups, in every world that has this memory. -/
theorem Ops.look {w : World} (h : Ops w) : ∃ bm, w.cell? ⟨0, 0, none⟩ = some (.map (some bm)) ∧ ∀ w' : World, w'.heap = w.heap →
    (∀ c : UInt8, isOp c = true → (Instr.lookup 55 (.map (some bm)) (.int .i32 (c.toNat : Int)) false).run Tryd.prog w' = .ok (opVal c) w' ∧ (Instr.lookup 55 (.map (some bm)) (.int .i32 (c.toNat : Int)) true).run Tryd.prog w' = .ok (.tuple #[opVal c, .bool true]) w') ∧
    (∀ c : UInt8, isOp c = false → (Instr.lookup 55 (.map (some bm)) (.int .i32 (c.toNat : Int)) true).run Tryd.prog w' = .ok (.tuple #[zeroOp, .bool false]) w') := by
  obtain ⟨bm, es, clock, R, h1, h2, h3, h4, h5⟩ := h.ex
  refine ⟨bm, h1, fun w' hw => ?_⟩
  have hb : w'.heap[bm]? = some (.map es clock) := by rw [hw]; exact h2
  have hz : (zeroValue 54).run Tryd.prog w' = .ok zeroOp w' := by kernel_rfl
  have hit : ∀ (q : Bool) (c : UInt8), isOp c = true → (Instr.lookup 55 (.map (some bm)) (.int .i32 (c.toNat : Int)) q).run Tryd.prog w' = .ok (if q = true then .tuple #[opVal c, .bool true] else opVal c) w' := by
    intro q c hc
    rcases Maps.fit_look q (int_keyed Tryd.underlying21) Tryd.underlying55 hz hb h3 (key21 c) with ⟨_, _, hat⟩ | ⟨e0, y, _, _, hrun, hR, hat, _⟩
    · rw [← h4] at hat
      have e := hat .nil
      rw [opsD_hit hc] at e
      cases e
    · rw [← h4] at hat
      have e := hat .nil
      rw [opsD_hit hc] at e
      obtain ⟨y1, y2⟩ := y
      simp only at e
      subst e
      rw [h5 c hc _ _ hR] at hrun
      exact hrun
  refine ⟨fun c hc => ⟨by simpa using hit false c hc, by simpa using hit true c hc⟩, fun c hc => ?_⟩
  rcases Maps.fit_look true (int_keyed Tryd.underlying21) Tryd.underlying55 hz hb h3 (key21 c) with ⟨hrun, _, _⟩ | ⟨e0, y, _, _, hrun, hR, hat, _⟩
  · simpa using hrun
  · rw [← h4] at hat
    have e1 := hat .nil
    have e2 := hat (.agg [])
    rw [opsD_miss hc] at e1 e2
    rw [← e1] at e2
    cases e2
/-! What the functions of the table do. -/
theorem callL {c : UInt8} (hc : isOp c = true) (n : Nat) (h1 : 1 ≤ n) (h2 : n ≤ 2305843009213693952) (w : World) : Calls Tryd.prog (fL c) #[.int .i64 (n : Int)] w fun e w' => e = .returned (.int .i64 ((long1 c n : Nat) : Int)) ∧ w' = w := by
  rcases isOp_cases hc with rfl | rfl | rfl | rfl | rfl
  · show Calls Tryd.prog 125 _ _ _
    go_enter Tryd.func125, Tryd.ntmps125
    go_wp2
    go_ret
    exact ⟨congrArg (fun x => Ending.returned (Value.int .i64 x)) (by show _ = ((2 * n + 1 : Nat) : Int); omega), rfl⟩
  · show Calls Tryd.prog 127 _ _ _
    go_enter Tryd.func127, Tryd.ntmps127
    go_wp2
    go_ret
    exact ⟨rfl, rfl⟩
  · show Calls Tryd.prog 130 _ _ _
    go_enter Tryd.func130, Tryd.ntmps130
    go_wp2
    go_ret
    exact ⟨congrArg (fun x => Ending.returned (Value.int .i64 x)) (by show _ = ((2 * n : Nat) : Int); omega), rfl⟩
  · show Calls Tryd.prog 133 _ _ _
    go_enter Tryd.func133, Tryd.ntmps133
    go_wp2
    go_ret
    exact ⟨congrArg (fun x => Ending.returned (Value.int .i64 x)) (by show _ = ((n - 1 : Nat) : Int); omega), rfl⟩
  · show Calls Tryd.prog 136 _ _ _
    go_enter Tryd.func136, Tryd.ntmps136
    go_wp2
    go_ret
    exact ⟨congrArg (fun x => Ending.returned (Value.int .i64 x)) (by show _ = ((n + 1 : Nat) : Int); omega), rfl⟩
theorem B_of {a : ByteArray} {l : List UInt8} (h : L a = l) : a = B l := by rw [← h, B_L]
theorem callA {c : UInt8} (hc : isOp c = true) (x : ByteArray) (h1 : 1 ≤ x.size) (h2 : x.size ≤ 1000000) (w : World) : Calls Tryd.prog (fA c) #[.string x] w fun e w' => e = .returned (.string (B (app1 c (L x)))) ∧ Below w.heap.size w w' := by
  have hadd : ∀ (a b : ByteArray) (W : World), a.size + b.size ≤ 9000000 → (Op.stringOp .add a b).run Tryd.prog W = .ok (.string (a ++ b)) W := fun a b W h => run_string_add_sum W a b (by omega)
  rcases isOp_cases hc with rfl | rfl | rfl | rfl | rfl
  · have e : B (app1 51 (L x)) = x ++ ⟨#[50]⟩ ++ x := (B_of (by rw [L_append, L_append, List.append_assoc]; rfl)).symm
    show Calls Tryd.prog 124 _ _ _
    rw [e]
    go_enter Tryd.func124, Tryd.ntmps124
    go_wp2
    go_ret
    exact ⟨rfl, Below.refl _ _⟩
  · show Calls Tryd.prog 44 _ _ _
    exact parrot_reversed.calls x (B (L x).reverse) w (by unfold parrot_reversed.f; rw [if_pos h2])
  · have e : B (app1 53 (L x)) = x ++ x := (B_of (by rw [L_append]; rfl)).symm
    show Calls Tryd.prog 129 _ _ _
    rw [e]
    go_enter Tryd.func129, Tryd.ntmps129
    go_wp2
    go_ret
    exact ⟨rfl, Below.refl _ _⟩
  · have e : B (app1 54 (L x)) = x.extract 1 x.size := (B_of (by rw [L_extract, List.take_of_length_le (by rw [L_length]; exact Nat.le_refl _), List.drop_one]; rfl)).symm
    show Calls Tryd.prog 132 _ _ _
    rw [e]
    go_enter Tryd.func132, Tryd.ntmps132
    go_wp2
    go_ret
    exact ⟨rfl, Below.refl _ _⟩
  · have e : B (app1 55 (L x)) = ⟨#[49]⟩ ++ x := (B_of (by rw [L_append]; rfl)).symm
    show Calls Tryd.prog 135 _ _ _
    rw [e]
    go_enter Tryd.func135, Tryd.ntmps135
    go_wp2
    go_ret
    exact ⟨rfl, Below.refl _ _⟩
theorem fA_run {c : UInt8} (hc : isOp c = true) : ∃ fn, Tryd.prog.funcs[fA c]? = some fn ∧ (fn.name == "runtime.NumGoroutine") = false ∧ fn.body.isSome = true := by
  rcases isOp_cases hc with rfl | rfl | rfl | rfl | rfl
  · exact ⟨_, Tryd.func124, by kernel_rfl, by kernel_rfl⟩
  · exact ⟨_, Tryd.func44, by kernel_rfl, by kernel_rfl⟩
  · exact ⟨_, Tryd.func129, by kernel_rfl, by kernel_rfl⟩
  · exact ⟨_, Tryd.func132, by kernel_rfl, by kernel_rfl⟩
  · exact ⟨_, Tryd.func135, by kernel_rfl, by kernel_rfl⟩
theorem fL_run {c : UInt8} (hc : isOp c = true) : ∃ fn, Tryd.prog.funcs[fL c]? = some fn ∧ (fn.name == "runtime.NumGoroutine") = false ∧ fn.body.isSome = true := by
  rcases isOp_cases hc with rfl | rfl | rfl | rfl | rfl
  · exact ⟨_, Tryd.func125, by kernel_rfl, by kernel_rfl⟩
  · exact ⟨_, Tryd.func127, by kernel_rfl, by kernel_rfl⟩
  · exact ⟨_, Tryd.func130, by kernel_rfl, by kernel_rfl⟩
  · exact ⟨_, Tryd.func133, by kernel_rfl, by kernel_rfl⟩
  · exact ⟨_, Tryd.func136, by kernel_rfl, by kernel_rfl⟩
/-! Operations one behind the other. -/
def aL (o : List UInt8) (w : List UInt8) : List UInt8 × Int := if w.length > 100000 then ([], 8) else applL o.reverse w
def parrot_applied.f (o w : ByteArray) : Option (ByteArray × Int) := if o.size ≤ 300000 ∧ (L o).all isOp = true ∧ 1 ≤ w.size ∧ w.size ≤ 1000000 then some (B (aL (L o) (L w)).1, (aL (L o) (L w)).2) else none
theorem byte_at (s : ByteArray) (i : Nat) (h : i < s.size) : (L s)[i]? = some (s[i]'h) := by
  show s.data.toList[i]? = some (s.data[i]'h)
  rw [Array.getElem?_toList, Array.getElem?_eq_getElem h]
theorem drop_at (s : ByteArray) (i : Nat) (h : i < s.size) : (L s).drop i = s[i]'h :: (L s).drop (i + 1) := by
  have hl : i < (L s).length := h
  rw [List.drop_eq_getElem_cons hl]
  congr 1
theorem op_ascii {c : UInt8} (h : isOp c = true) : c.toNat < 128 := by
  rcases isOp_cases h with rfl | rfl | rfl | rfl | rfl <;> decide
set_option maxHeartbeats 2000000 in
set_option maxRecDepth 100000 in
theorem parrot_applied.calls (a0 a1 : ByteArray) (r1 : ByteArray) (r2 : Int) (w : World) (hO : Ops w) (h : parrot_applied.f a0 a1 = some (r1, r2)) :
    Calls Tryd.prog 47 #[.string a0, .string a1] w fun e w' => e = .returned (.tuple #[.string r1, .int .i64 r2]) ∧ Below w.heap.size w w' := by
  unfold parrot_applied.f at h
  by_cases hg : a0.size ≤ 300000 ∧ (L a0).all isOp = true ∧ 1 ≤ a1.size ∧ a1.size ≤ 1000000
  · rw [if_pos hg] at h
    obtain ⟨g1, g2, g3, g4⟩ := hg
    simp only [Option.some.injEq, Prod.mk.injEq] at h
    obtain ⟨hr1, hr2⟩ := h
    unfold aL at hr1 hr2
    rw [L_length] at hr1 hr2
    by_cases c0 : a1.size > 100000
    · rw [if_pos c0] at hr1 hr2
      subst hr1 hr2
      have c0' : decide ((100000 : Int) < (a1.size : Int)) = true := decide_eq_true (by omega)
      go_enter Tryd.func47, Tryd.ntmps47
      go_wp2
      go_ret2
      exact ⟨rfl, Below.refl _ _⟩
    · rw [if_neg c0] at hr1 hr2
      have c0' : decide ((100000 : Int) < (a1.size : Int)) = false := decide_eq_false (by omega)
      have HR : Aside0 (applL (L a0).reverse (L a1) = (L r1, r2)) := ⟨by rw [← hr1, ← hr2, L_B]⟩
      obtain ⟨rv, hrv⟩ : ∃ rv, B (L a0).reverse = rv := ⟨_, rfl⟩
      have hrev := fun w => parrot_reversed.calls a0 rv w (by unfold parrot_reversed.f; rw [if_pos (by omega), hrv])
      have hLr : L rv = (L a0).reverse := by rw [← hrv, L_B]
      have HA : Aside0 (∀ (i : Nat) (hi : i < rv.size), isOp (rv[i]'hi) = true) := ⟨fun i hi => by
        have h1 := byte_at rv i hi
        rw [hLr] at h1
        exact List.all_eq_true.1 g2 _ (List.mem_reverse.1 (List.mem_of_getElem? h1))⟩
      rw [← hLr] at HR
      clear hr1 hr2 g2 hrv hLr
      go_enter Tryd.func47, Tryd.ntmps47
      go_wp2_with (go_at_call 44; refine (hrev _).mono ?_; rintro e w1 ⟨rfl, hb1⟩; clear hrev)
      have HB1 := Aside0.mk hb1
      go_loopg [1] rv.size (fun q v1 wr => ∃ (i : Nat) (x : ByteArray), v1 = .string x ∧ i + q = rv.size ∧ 1 ≤ x.size ∧ x.size ≤ 100000 ∧ Aside0 (applL ((L rv).drop i) (L x) = (L r1, r2)) ∧ wr.heap[w1.heap.size]? = some (.stringIter rv i) ∧ Aside0 (Below w.heap.size w wr))
      case atStart => exact ⟨0, a1, rfl, by omega, g3, by omega, HR, World.iter_heap w1 rv 0, ⟨below_alloc hb1 _⟩⟩
      case round =>
        clear HR
        obtain ⟨i, x, rfl, hiq, hx1, hx2, HR, hit, HBw⟩ := hrel
        by_cases hlt : i < rv.size
        · obtain ⟨q, rfl⟩ : ∃ q, gk = q + 1 := ⟨gk - 1, by omega⟩
          have hop := HA.out i hlt
          have hnx := fun ty => Lib.run_next_ascii_at (P := Tryd.prog) wr w1.heap.size rv i ty hit hlt (op_ascii hop)
          have hd := drop_at rv i hlt
          rw [hd] at HR
          obtain ⟨c, hc⟩ : ∃ c, rv[i]'hlt = c := ⟨_, rfl⟩
          rw [hc] at HR hop hnx
          have hkW : w.heap.size ≤ w1.heap.size := HB1.out.size
          have hit2 := Lib.iterAt_heap wr w1.heap.size rv i (i + 1) hit
          have HBw2 := Aside0.mk (Lib.below_iterAt HBw.out (k := w1.heap.size) hkW rv (i + 1))
          obtain ⟨W1, hW1⟩ : ∃ W1, wr.iterAt w1.heap.size rv (i + 1) = W1 := ⟨_, rfl⟩
          rw [hW1] at hnx hit2 HBw2
          obtain ⟨bm, hG, hlk⟩ := (hO.below HBw2.out).look
          replace hlk := ((hlk W1 rfl).1 c hop).1
          obtain ⟨fl, hfl1, hfl2, hfl3⟩ := fL_run hop
          obtain ⟨fa, hfa1, hfa2, hfa3⟩ := fA_run hop
          have hcl := fun w => callL hop x.size hx1 (by omega) w
          have hca := fun w => callA hop x hx1 (by omega) w
          obtain ⟨n, hn⟩ : ∃ n, long1 c x.size = n := ⟨_, rfl⟩
          obtain ⟨nl, hnl⟩ : ∃ nl, fL c = nl := ⟨_, rfl⟩
          obtain ⟨na, hna⟩ : ∃ na, fA c = na := ⟨_, rfl⟩
          obtain ⟨nb, hnb⟩ : ∃ nb, fB c = nb := ⟨_, rfl⟩
          unfold opVal at hlk
          rw [hnl, hna, hnb] at hlk
          rw [hnl] at hfl1
          rw [hna] at hfa1
          rw [hnl, hn] at hcl
          rw [hna] at hca
          have hr := HR.out
          rw [applL, L_length, hn] at hr
          clear HR hd hc hW1 hit HBw hnl hna hnb
          by_cases d1 : n = 0
          · rw [if_pos d1] at hr
            subst d1
            have hr := (Prod.mk.injEq _ _ _ _).mp hr
            obtain ⟨hr1, rfl⟩ := hr
            have hr1 : r1 = ⟨#[]⟩ := (B_of hr1.symm)
            subst hr1
            go_wp2_with (first | ((with_reducible refine Goes.gate_slot (t := 23) rfl ?_); refine Goes.goesTL (some 26) rfl rfl hfl1 hfl2 hfl3 #[.int .i64 (x.size : Int)] rfl (by (try simp only [List.map_toArray, List.map_cons, List.map_nil]); first | done | rfl) ?_; refine (hcl _).mono ?_; rintro e w' ⟨rfl, rfl⟩; refine ⟨_, rfl, ?_⟩))
            go_ret2
            exact ⟨rfl, below_alloc HBw2.out _⟩
          · rw [if_neg d1] at hr
            have d1' : ((n : Int) == 0) = false := beq_eq_false_iff_ne.2 (by omega)
            by_cases d2 : n > 100000
            · rw [if_pos d2] at hr
              have hr := (Prod.mk.injEq _ _ _ _).mp hr
              obtain ⟨hr1, rfl⟩ := hr
              have hr1 : r1 = ⟨#[]⟩ := (B_of hr1.symm)
              subst hr1
              have d2' : decide ((100000 : Int) < (n : Int)) = true := decide_eq_true (by omega)
              go_wp2_with (first | ((with_reducible refine Goes.gate_slot (t := 23) rfl ?_); refine Goes.goesTL (some 26) rfl rfl hfl1 hfl2 hfl3 #[.int .i64 (x.size : Int)] rfl (by (try simp only [List.map_toArray, List.map_cons, List.map_nil]); first | done | rfl) ?_; refine (hcl _).mono ?_; rintro e w' ⟨rfl, rfl⟩; refine ⟨_, rfl, ?_⟩))
              go_ret2
              exact ⟨rfl, below_alloc HBw2.out _⟩
            · rw [if_neg d2] at hr
              have d2' : decide ((100000 : Int) < (n : Int)) = false := decide_eq_false (by omega)
              have hs : (B (app1 c (L x))).size = n := by rw [B_size, app1_length, L_length, hn]
              obtain ⟨y, hy⟩ : ∃ y, B (app1 c (L x)) = y := ⟨_, rfl⟩
              rw [hy] at hca hs
              have HR2 : Aside0 (applL ((L rv).drop (i + 1)) (L y) = (L r1, r2)) := ⟨by rw [← hy, L_B]; exact hr⟩
              have hit3 := (Below.heap_alloc W1 (.cells #[.func (.func na) #[] #[], .func (.func nl) #[] #[], .func (.func nb) #[] #[]] 54) w1.heap.size (Array.getElem?_eq_some_iff.1 hit2).1).trans hit2
              have HBw3 := Aside0.mk (below_alloc HBw2.out (.cells #[.func (.func na) #[] #[], .func (.func nl) #[] #[], .func (.func nb) #[] #[]] 54))
              have hlt2 := (Array.getElem?_eq_some_iff.1 hit3).1
              clear hr hn hy
              go_wp2_with (first | ((with_reducible refine Goes.gate_slot (t := 23) rfl ?_); refine Goes.goesTL (some 26) rfl rfl hfl1 hfl2 hfl3 #[.int .i64 (x.size : Int)] rfl (by (try simp only [List.map_toArray, List.map_cons, List.map_nil]); first | done | rfl) ?_; refine (hcl _).mono ?_; rintro e w' ⟨rfl, rfl⟩; refine ⟨_, rfl, ?_⟩) | ((with_reducible refine Goes.gate_slot rfl ?_); refine Goes.goesTL _ rfl rfl hfa1 hfa2 hfa3 #[.string x] rfl (by (try simp only [List.map_toArray, List.map_cons, List.map_nil]); first | done | rfl) ?_; refine (hca _).mono ?_; rintro e w3 ⟨rfl, hb3⟩; have hit4 := (hb3.5 _ hlt2).trans hit3; have HBw4 := Aside0.mk (HBw3.out.trans (hb3.mono HBw3.out.size)); clear hit3 HBw3; refine ⟨_, rfl, ?_⟩))
              go_roundg q
              case measure => omega
              case rel => exact ⟨i + 1, y, rfl, by omega, by omega, by omega, HR2, hit4, HBw4⟩
        · obtain rfl : gk = 0 := by omega
          obtain rfl : i = rv.size := by omega
          have hnx := fun ty => Lib.run_next_end_at (P := Tryd.prog) wr w1.heap.size rv rv.size ty hit (by omega)
          have hr := HR.out
          rw [List.drop_of_length_le (by rw [L_length]; exact Nat.le_refl _), applL] at hr
          have hr := (Prod.mk.injEq _ _ _ _).mp hr
          obtain ⟨hr1, rfl⟩ := hr
          have hr1 : r1 = x := by rw [← B_L r1, ← hr1, B_L]
          subst hr1
          clear HR
          go_wp2
          go_ret2
          exact ⟨rfl, HBw.out⟩
  · rw [if_neg hg] at h; cases h

end Go.Proofs.YtcjbnonjhahakaaDoor.Hand
