import Derived.Test.YtcjbnonjhahakaaDoorProg
import Derived.Below
import Derived.Deep.Draws
import Derived.Deep.AppendLies
import Derived.Maps.AppendAt
import Derived.OwnWalk
import Derived.Laws.BytesArg
import Derived.Laws.MakeOwn
import Derived.Laws.OwnMore
import Derived.Deep.OwnRows
import Derived.Tactics
import Derived.Lib.ConvBytes
import Derived.Laws.Slices
import Derived.WalkKit
import Derived.KernelRfl
import Derived.RowKit3
import Derived.Deep.LoopGhost
import Derived.Deep.QuietTactic
import Derived.BigQuiet
import Derived.WideLaws
import Derived.Deep.DeepCutAuto
import Derived.Deep.CutBlock
import Derived.Deep.RegionHeld3
import Derived.Laws.Rows
import Derived.Lib.AppendStr
import Derived.ArgAppend
import Derived.Laws.IdiomCopy
import Derived.OrdersHeld
import Derived.Laws.BitsLemmas
import Derived.RowKit
import Derived.Test.YtcjbnonjhahakaaDoorWWords
import Derived.Test.YtcjbnonjhahakaaDoorWLast
import Derived.Test.YtcjbnonjhahakaaDoorWTab
import Derived.Test.YtcjbnonjhahakaaDoorWFour
import Derived.Test.YtcjbnonjhahakaaDoorWQPut
import Derived.Test.YtcjbnonjhahakaaDoorWApart
import Derived.Test.YtcjbnonjhahakaaDoorWArr
import Derived.Test.YtcjbnonjhahakaaDoorWZeros
import Derived.Test.YtcjbnonjhahakaaDoorWFoot
import Derived.Test.YtcjbnonjhahakaaDoorWKept
import Derived.Test.YtcjbnonjhahakaaDoorWShare
import Derived.Test.YtcjbnonjhahakaaDoorWN
import Derived.Test.YtcjbnonjhahakaaDoorWFootNe
import Derived.Test.YtcjbnonjhahakaaDoorWAt
import Derived.Test.YtcjbnonjhahakaaDoorWEqStruct
import Derived.Test.YtcjbnonjhahakaaDoorWRepsOne
import Derived.Test.YtcjbnonjhahakaaDoorWInv
import Derived.Test.YtcjbnonjhahakaaDoorWInvWords
import Derived.Test.YtcjbnonjhahakaaDoorWGuard
import Derived.Test.YtcjbnonjhahakaaDoorWNEv
import Derived.Test.YtcjbnonjhahakaaDoorWMore
import Derived.Test.YtcjbnonjhahakaaDoorHandC
import Derived.Maps.OwnOps
namespace Go.Proofs.YtcjbnonjhahakaaDoor.Hand
open Go.RowKit Go.Proofs.YtcjbnonjhahakaaDoorW.PrintWords Go.Proofs.YtcjbnonjhahakaaDoorW.PrintLast Go.Proofs.YtcjbnonjhahakaaDoorW.PrintMore
set_option linter.unusedVariables false
set_option linter.unusedSimpArgs false

/-! Life. -/
open Go.Maps Go.WideMaps Go.Proofs.YtcjbnonjhahakaaDoor.Math Go.Proofs.YtcjbnonjhahakaaDoor.Goes
structure SeenRel (D : DataW Unit) (seen : List (List UInt8)) : Prop where
  has : ∀ k, Maps.has D (.string k) = (pos k seen).isSome
  at_ : ∀ k i, pos k seen = some i → D.atKey (.string k) (.lit (.int .i64 0)) = .lit (.int .i64 (i : Int))
  size : Maps.size D = seen.length
theorem SeenRel.start : SeenRel (.map []) [] where
  has := fun k => rfl
  at_ := fun k i h => nomatch h
  size := rfl
theorem SeenRel.step {D : DataW Unit} {seen : List (List UInt8)} {k : List UInt8} (h : SeenRel D seen) (hT : Maps.Tidy D) (hk : pos k seen = none) (hkl : WideAt.IsKeyLit (.string k)) : SeenRel (D.put (.string k) (.lit (.int .i64 (seen.length : Int)))) (seen ++ [k]) := by
  refine ⟨fun k' => ?_, fun k' i hi => ?_, ?_⟩
  · by_cases e : k' = k
    · subst e
      rw [Maps.has_put_same hT.isMap hkl, pos_snoc_new hk, Option.isSome_some]
    · rw [Maps.has_put_other (fun h => e (by cases h; rfl)), h.has]
      cases hp : pos k' seen with
      | none => rw [pos_append_none hp (fun h => e h.symm)]
      | some i => rw [pos_snoc_old hp]
  · by_cases e : k' = k
    · subst e
      rw [pos_snoc_new hk] at hi
      obtain rfl := Option.some.inj hi
      rw [Maps.atKey_put_same hT.isMap hkl]
    · rw [Maps.atKey_put_other (fun h => e (by cases h; rfl))]
      cases hp : pos k' seen with
      | none => rw [pos_append_none hp (fun h => e h.symm)] at hi; cases hi
      | some j => rw [pos_snoc_old hp] at hi; obtain rfl := Option.some.inj hi; exact h.at_ _ _ hp
  · rw [Maps.size_put hT, h.has, hk, h.size]; simp
theorem ownsMap_below {H : Type} {P : Program} {k : TypeId} {R : Value → Option (DataW H × List MemPlace)} {b n : Nat} {D : DataW H} {w w' : World} (h : w.ownsMap P k R b n D) (hb : Below w.heap.size w w') : w'.ownsMap P k R b n D := by
  obtain ⟨es, clock, h1, h2, h3, h4⟩ := h
  exact ⟨es, clock, (hb.5 b (Array.getElem?_eq_some_iff.1 h1).1).trans h1, h2, h3, h4⟩
def parrot_Life.f (s : ByteArray) : Option (Int × Int × Int) := some (life (L s))
theorem says_small (l : List UInt8) (h : l.length ≤ 100000) : (says l).1.length ≤ 100000 := by
  have key : ∀ (o x : List UInt8), x.length ≤ 100000 → (applL o x).1.length ≤ 100000 := by
    intro o
    induction o with
    | nil => intro x hx; exact hx
    | cons c o ih =>
      intro x hx
      rw [applL]
      by_cases h1 : long1 c x.length = 0
      · rw [if_pos h1]; simp
      · rw [if_neg h1]
        by_cases h2 : long1 c x.length > 100000
        · rw [if_pos h2]; simp
        · rw [if_neg h2]; exact ih _ (by rw [app1_length]; omega)
  unfold says
  cases hp : parts l with
  | none => simp
  | some q =>
    obtain ⟨o, x⟩ := q
    obtain ⟨_, _, h3⟩ := parts_all hp
    exact key _ _ (by omega)
set_option maxHeartbeats 2000000 in
set_option maxRecDepth 100000 in
theorem parrot_Life.calls (a0 : ByteArray) (r1 r2 r3 : Int) (w : World) (hO : Ops w) (h : parrot_Life.f a0 = some (r1, r2, r3)) :
    Calls Tryd.prog 17 #[.string a0] w fun e w' => e = .returned (.tuple #[.int .i64 r1, .int .i64 r2, .int .i64 r3]) ∧ Below w.heap.size w w' := by
  unfold parrot_Life.f at h
  replace h := Option.some.inj h
  unfold life at h
  have hwc := fun w => parrot_word.calls a0 (wordE (L a0)) w rfl
  have hmm := @run_makeMap Tryd.prog
  by_cases c : wordE (L a0) = 0
  · rw [if_neg (show ¬ wordE (L a0) ≠ 0 by simpa using c)] at h
    rw [c] at hwc
    have hw := wordE_ok.1 c
    have hl : (L a0).length = a0.size := rfl
    have hd0 := hw.2.1
    have hs0 : 1 ≤ a0.size := by have := List.length_pos_iff.2 hw.2.2; omega
    have hs1 : a0.size ≤ 100000 := by omega
    have HR := Aside0.mk h
    clear h hw hl c
    go_enter Tryd.func17, Tryd.ntmps17
    go_wp2_with (go_at_call 40; refine (hwc _).mono ?_; rintro e w0 ⟨rfl, hb0⟩; clear hwc)
    obtain ⟨b, hbd⟩ : ∃ b, w0.heap.size = b := ⟨_, rfl⟩
    have hwb : w.heap.size ≤ b := hbd ▸ hb0.size
    have HM : Aside0 ((w0.alloc (.map #[] 0)).ownsMap Tryd.prog 9 (plainElem (H := Unit) Tryd.prog 3) b 0 (.map [])) := ⟨hbd ▸ World.ownsMap_made _ _ _ _⟩
    have HB := Aside0.mk (below_alloc hb0 (.map #[] 0))
    rw [hbd]
    clear hb0
    go_loopg [0] 1000 (fun q v0 wr => ∃ (seen : List (List UInt8)) (x : ByteArray) (D : DataW Unit), v0 = .string x ∧ q + seen.length = 1000 ∧ (L x).all isDig = true ∧ 1 ≤ x.size ∧ x.size ≤ 100000 ∧ SeenRel D seen ∧ wr.ownsMap Tryd.prog 9 (plainElem Tryd.prog 3) b seen.length D ∧ Aside0 (lifeGo q seen (L x) = (r1, r2, r3)) ∧ Aside0 (Below w.heap.size w wr))
    case atStart => exact ⟨[], a0, .map [], rfl, rfl, hd0, hs0, hs1, SeenRel.start, HM.out, HR, HB⟩
    case round =>
      clear HR HM HB hd0 hs0 hs1 hbd
      obtain ⟨seen, x, D, rfl, hq, hdx, hx1, hx2, HS, hown, HR, HBw⟩ := hrel
      have hkey : keyOf Tryd.prog 9 (.string x) = some (.string (L x)) := keyOf_string_mk Tryd.underlying9 (by unfold maxLen; omega)
      have hhas := HS.has (L x)
      have hsz := HS.size
      have hr := HR.out
      obtain ⟨k, hk⟩ : ∃ k, seen.length = k := ⟨_, rfl⟩
      cases hp : pos (L x) seen with
      | some i =>
        have hlt := (pos_lt hp).1
        have hr : ((i : Int), ((seen.length - i : Nat) : Int), (0 : Int)) = (r1, r2, r3) := by
          cases gk with
          | zero => rw [lifeGo, hp] at hr; exact hr
          | succ q => rw [lifeGo, hp] at hr; exact hr
        simp only [Prod.mk.injEq] at hr
        obtain ⟨rfl, rfl, rfl⟩ := hr
        rw [hp, Option.isSome_some] at hhas
        have hat0 := HS.at_ (L x) i hp
        have hlen := hown.len Tryd.underlying46 3
        rw [hsz] at hlen
        have hsub : wrap64 ((seen.length : Int) - (i : Int)) = ((seen.length - i : Nat) : Int) := by unfold wrap64; omega
        clear HR hp hk hq HS hsz
        go_wp2_with (first | (at_lookup; refine wpList_lookup_own_ok_int _ rfl _ _ 46 rfl 9 3 .i64 (string_keyed Tryd.underlying9) Tryd.underlying46 Tryd.underlying3 (by kernel_rfl) b _ D rfl hown _ _ rfl hkey ?_; intro c hat hwc; rw [hat0] at hat; cases hat; rw [hhas]) | go_in)
        go_ret3
        refine ⟨?_, HBw.out⟩
        rw [← hsub]; rfl
      | none =>
        rw [hp, Option.isSome_none] at hhas
        have hlen := hown.len Tryd.underlying46 3
        rw [hsz] at hlen
        cases gk with
        | zero =>
          rw [lifeGo, hp] at hr
          simp only [Prod.mk.injEq] at hr
          obtain ⟨rfl, rfl, rfl⟩ := hr
          have hk2 : ((seen.length : Int) == 1000) = true := beq_iff_eq.2 (by omega)
          clear HR hp hk HS hsz
          go_wp2_with (first | (at_lookup; refine wpList_lookup_own_ok_int _ rfl _ _ 46 rfl 9 3 .i64 (string_keyed Tryd.underlying9) Tryd.underlying46 Tryd.underlying3 (by kernel_rfl) b _ D rfl hown _ _ rfl hkey ?_; intro c hat hwc; rw [hhas]; clear hat hwc) | go_in)
          go_ret3
          exact ⟨rfl, HBw.out⟩
        | succ q =>
          rw [lifeGo, hp] at hr
          dsimp only at hr
          have hk2 : ((seen.length : Int) == 1000) = false := beq_eq_false_iff_ne.2 (by omega)
          have hmd := fun w hw => parrot_made.calls x (B (says (L x)).1) (says (L x)).2 w hw (by unfold parrot_made.f; rw [if_pos ⟨hdx, hx2⟩])
          have hst := HS.step (hown.tidy (string_keyed Tryd.underlying9)) hp (by trivial)
          have hsl := says_small (L x) hx2
          by_cases d1 : (says (L x)).2 = 10
          · rw [if_pos d1] at hr
            rw [d1] at hmd
            simp only [Prod.mk.injEq] at hr
            obtain ⟨rfl, rfl, rfl⟩ := hr
            clear HR hp hk HS hsz
            go_wp2_with (first | (at_lookup; refine wpList_lookup_own_ok_int _ rfl _ _ 46 rfl 9 3 .i64 (string_keyed Tryd.underlying9) Tryd.underlying46 Tryd.underlying3 (by kernel_rfl) b _ D rfl hown _ _ rfl hkey ?_; intro c hat hwc; rw [hhas]; clear hat hwc) | (at_mapUpdate; refine wpList_mapUpdate_own _ rfl _ _ _ 46 rfl 9 3 (string_keyed Tryd.underlying9) Tryd.underlying46 _ b _ D rfl hown (by unfold maxLen; omega) _ _ _ rfl rfl hkey _ [] (plainElem_int Tryd.underlying3 (WalkArith.wf_i64 (by omega))) ?_; intro w1 hown1 hgrow1; have HB1 := Aside0.mk (HBw.out.grown hgrow1 HBw.out.size (fun j hj => by cases hj; exact hwb)); clear hgrow1 hown) | (go_at_call 41; refine (hmd _ (hO.below HB1.out)).mono ?_; rintro e w3 ⟨rfl, hb3⟩; have hown3 := ownsMap_below hown1 hb3; have HB3 := Aside0.mk (HB1.out.trans (hb3.mono HB1.out.size)); have hlen3 := hown3.len Tryd.underlying46 3; rw [hst.size, List.length_append, List.length_singleton] at hlen3; clear hown1 HB1 hb3 hmd) | go_in)
            go_ret3
            exact ⟨rfl, HB3.out⟩
          · rw [if_neg d1] at hr
            by_cases d2 : (says (L x)).2 = 8
            · rw [if_pos d2] at hr
              rw [d2] at hmd
              simp only [Prod.mk.injEq] at hr
              obtain ⟨rfl, rfl, rfl⟩ := hr
              clear HR hp hk HS hsz
              go_wp2_with (first | (at_lookup; refine wpList_lookup_own_ok_int _ rfl _ _ 46 rfl 9 3 .i64 (string_keyed Tryd.underlying9) Tryd.underlying46 Tryd.underlying3 (by kernel_rfl) b _ D rfl hown _ _ rfl hkey ?_; intro c hat hwc; rw [hhas]; clear hat hwc) | (at_mapUpdate; refine wpList_mapUpdate_own _ rfl _ _ _ 46 rfl 9 3 (string_keyed Tryd.underlying9) Tryd.underlying46 _ b _ D rfl hown (by unfold maxLen; omega) _ _ _ rfl rfl hkey _ [] (plainElem_int Tryd.underlying3 (WalkArith.wf_i64 (by omega))) ?_; intro w1 hown1 hgrow1; have HB1 := Aside0.mk (HBw.out.grown hgrow1 HBw.out.size (fun j hj => by cases hj; exact hwb)); clear hgrow1 hown) | (go_at_call 41; refine (hmd _ (hO.below HB1.out)).mono ?_; rintro e w3 ⟨rfl, hb3⟩; have hown3 := ownsMap_below hown1 hb3; have HB3 := Aside0.mk (HB1.out.trans (hb3.mono HB1.out.size)); have hlen3 := hown3.len Tryd.underlying46 3; rw [hst.size, List.length_append, List.length_singleton] at hlen3; clear hown1 HB1 hb3 hmd) | go_in)
              go_ret3
              exact ⟨rfl, HB3.out⟩
            · rw [if_neg d2] at hr
              have d3 : (says (L x)).2 = 0 := by
                rcases says_err (L x) with e | e | e
                · exact e
                · rw [e] at d1; exact absurd rfl d1
                · rw [e] at d2; exact absurd rfl d2
              have hok := says_ok hdx d3
              rw [d3] at hmd
              obtain ⟨y, hy⟩ : ∃ y, B (says (L x)).1 = y := ⟨_, rfl⟩
              have hLy : L y = (says (L x)).1 := by rw [← hy, L_B]
              have hys : y.size = (says (L x)).1.length := by rw [← hLy, L_length]
              rw [hy] at hmd
              rw [← hLy] at hok hr
              have hy1 : 1 ≤ y.size := by have := List.length_pos_iff.2 hok.2; rw [L_length] at this; omega
              have hy2 : y.size ≤ 100000 := by omega
              have HR2 := Aside0.mk hr
              have HSt := Aside0.mk hst
              have HQ : Aside0 (q + (seen ++ [L x]).length = 1000) := ⟨by rw [List.length_append, List.length_singleton]; omega⟩
              have HOk := Aside0.mk hok.1
              have hLn : (seen ++ [L x]).length = seen.length + 1 := by rw [List.length_append, List.length_singleton]
              have HLn := Aside0.mk hLn
              clear HR hp hk HS hsz hr hok hLy hys hy d1 d2 d3 hsl hLn
              go_wp2_with (first | (at_lookup; refine wpList_lookup_own_ok_int _ rfl _ _ 46 rfl 9 3 .i64 (string_keyed Tryd.underlying9) Tryd.underlying46 Tryd.underlying3 (by kernel_rfl) b _ D rfl hown _ _ rfl hkey ?_; intro c hat hwc; rw [hhas]; clear hat hwc) | (at_mapUpdate; refine wpList_mapUpdate_own _ rfl _ _ _ 46 rfl 9 3 (string_keyed Tryd.underlying9) Tryd.underlying46 _ b _ D rfl hown (by unfold maxLen; omega) _ _ _ rfl rfl hkey _ [] (plainElem_int Tryd.underlying3 (WalkArith.wf_i64 (by omega))) ?_; intro w1 hown1 hgrow1; have HB1 := Aside0.mk (HBw.out.grown hgrow1 HBw.out.size (fun j hj => by cases hj; exact hwb)); clear hgrow1 hown) | (go_at_call 41; refine (hmd _ (hO.below HB1.out)).mono ?_; rintro e w3 ⟨rfl, hb3⟩; have hown3 := ownsMap_below hown1 hb3; have HB3 := Aside0.mk (HB1.out.trans (hb3.mono HB1.out.size)); have hlen3 := hown3.len Tryd.underlying46 3; rw [hst.size, List.length_append, List.length_singleton] at hlen3; clear hown1 HB1 hb3 hmd) | go_in)
              go_roundg q
              case measure => omega
              case rel => exact ⟨seen ++ [L x], y, _, rfl, HQ.out, HOk.out, hy1, hy2, HSt.out, HLn.out ▸ hown3, HR2, HB3⟩
  · rw [if_pos c] at h
    simp only [Prod.mk.injEq] at h
    obtain ⟨rfl, rfl, rfl⟩ := h
    obtain ⟨e1, he1⟩ : ∃ e1, wordE (L a0) = e1 := ⟨_, rfl⟩
    rw [he1] at hwc c ⊢
    have c' : (e1 != 0) = true := bne_iff_ne.2 c
    go_enter Tryd.func17, Tryd.ntmps17
    go_wp2_with (go_at_call 40; refine (hwc _).mono ?_; rintro e w0 ⟨rfl, hb0⟩)
    go_ret3
    exact ⟨rfl, hb0⟩
theorem sz0 : (⟨#[]⟩ : ByteArray).size = 0 := rfl
theorem sz1 (a : UInt8) : (⟨#[a]⟩ : ByteArray).size = 1 := rfl
theorem sz2 (a b : UInt8) : (⟨#[a, b]⟩ : ByteArray).size = 2 := rfl
theorem ic1 : ((1 : Nat) : Int) = 1 := rfl
theorem ic2 : ((2 : Nat) : Int) = 2 := rfl

end Go.Proofs.YtcjbnonjhahakaaDoor.Hand
