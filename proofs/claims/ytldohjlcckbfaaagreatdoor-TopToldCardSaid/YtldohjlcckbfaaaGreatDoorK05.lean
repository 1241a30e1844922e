/- A part of the proof that pomadetop.TopTold returns true for every input: XSeq. No condition beyond those that each theorem states. -/
import Derived.RangeFuncBox
import Derived.RangeFuncCalls
import Derived.RangeFuncNested
import Derived.RangeFuncLeaves
namespace TopSeq
open Go Go.RowKit
variable {F : Fence} {n : Nat} {P : Program}
def SeqBox (F : Fence) (n : Nat) (P : Program) (g : Nat) (lb : Array Value) (encs : Nat → Array Value) (N Bn : Nat) (Kb : Nat → Prop) (St : World → Value → Prop) (w : World) : Prop :=
  ∀ (l : Nat) (J : Nat → World → Prop) (W : World), Below w.heap.size w W →
    (∀ k A B, J k A → A.grownBy B none → J k B) →
    (∀ k A v, J k A → St A v → J k (A.setCell ⟨Bn, 0, none⟩ v)) →
    (∀ k W1, k < N → J k W1 → YieldAt F (n - 1) P l (encs k) W1 fun e W' => e = .returned (.bool true) ∧ J (k + 1) W' ∧ ∀ b, Kb b → W'.heap[b]? = W1.heap[b]?) →
    J 0 W → CallsIn F n P g (#[.func (.yield l) #[] #[]] ++ lb) W fun e W' => (∃ v, e = .returned v) ∧ J N W'
def boxPost (B : Nat) (Kb : Nat → Prop) (I : Nat → World → Prop) (k : Nat) (W : World) : Exit → Act → World → Prop
  | .normal, _, W' => KeepsFrom B W W' ∧ (∀ b, Kb b → W'.heap[b]? = W.heap[b]?) ∧ I (k + 1) W'
  | _, _, _ => False
theorem range_box {g : Operand} {ps : Array Tmp} {assign body : Code} {Q : Exit → Act → World → Prop} {a : Act} {w : World}
    (hro : F.round = none) (h1 : 1 ≤ n) {gf : Nat} {lb : Array Value} (hg : a.eval g = .func (.func gf) #[] lb) (hFg : F.fn gf) (eg : ∀ args w, (callFunc gf args).run P w = .ok (.enter gf args) w)
    {encs : Nat → Array Value} {N Bn : Nat} {Kb : Nat → Prop} {St : World → Value → Prop} (hBn : Bn < w.heap.size) (hKb : ∀ b, Kb b → b < w.heap.size) (hseq : SeqBox F (n - 1) P gf lb encs N Bn Kb St w)
    (hps : ∀ k, (encs k).size = ps.size)
    (I : Nat → World → Prop) (hI : OwnFrom w.heap.size I) (hIS : ∀ k A v, I k A → St A v → I k (A.setCell ⟨Bn, 0, none⟩ v)) (h0 : I 0 w) (a₁ : Nat → Act)
    (hassign : ∀ (l k : Nat) (W : World) (K : Act → World → Prop), K (a₁ k) W →
      assign.wpIn (F.inRound l) (n - 1 - 1) P (Exit.then K (fun _ _ _ => False)) { tmps := (ps.zip (encs k)).foldl (fun t (p, v) => t.setIfInBounds p v) a.tmps, defers := [] } W)
    (hbody : ∀ (l k : Nat) (W : World), k < N → I k W → body.wpIn (F.inRound l) (n - 1 - 1) P (boxPost w.heap.size Kb I k W) (a₁ k) W)
    (hdone : ∀ (D : Nat) (W : World), w.heap.size ≤ D → I N W → W.heap[D]? = some (.deferred (some [])) → Q .normal { a with defers := { target := .collected D, args := #[] } :: a.defers } W) :
    (Code.rangeFunc g ps assign body).wpIn F n P Q a w := by
  refine wpIn_rangeFunc ?_
  intro fn hfn
  rw [hro]
  obtain ⟨rec, hrec⟩ : ∃ rec : LoopState → Loop, rec = fun st => { state := st, pending := none, fn, tmps := a.tmps, params := ps, assign, body, defers := w.heap.size } := ⟨_, rfl⟩
  obtain ⟨z, hz⟩ : ∃ z, w.heap.size = z := ⟨_, rfl⟩
  obtain ⟨W1, hW1⟩ : ∃ W1, (w.alloc (.deferred (some []))).alloc (.loop (rec .ready)) = W1 := ⟨_, rfl⟩
  have hL1 : W1.heap[z + 1]? = some (.loop (rec .ready)) := by
    rw [← hW1, ← hz]
    have := World.alloc_heap_new (w.alloc (.deferred (some []))) (.loop (rec .ready))
    rwa [World.size_alloc] at this
  have hK1 : W1.heap[z]? = some (.deferred (some [])) := by
    rw [← hW1, ← hz]
    exact (Below.heap_alloc _ _ _ (by simp)).trans (World.alloc_heap_new w _)
  have hI1 : I 0 W1 := by rw [← hW1]; exact hI.alloc _ (hI.alloc _ h0)
  have hb1 : Below w.heap.size w W1 := by
    rw [← hW1]; exact ((Below.refl _ w).alloc (Nat.le_refl _) _).alloc (by simp) _
  rw [hz] at hBn hKb
  refine ⟨z + 1, [{ target := .collected z, args := #[] }], W1, { target := .fn (.func gf) lb, args := #[.func (.yield (z + 1)) #[] #[]] }, W1, gf, #[.func (.yield (z + 1)) #[] #[]] ++ lb, W1, ?_, ?_, ?_, ?_, fun _ => h1, ?_⟩
  · rw [← hW1, hrec, ← hz]; exact run_enterLoop_outer _ _ _ _ _
  · simp only [resolve, hg]
    simp [go_sem]
  · intro f' hf'
    simp [Target.leads] at hf'
    subst hf'
    exact hFg
  · simp [invoke, go_sem, eg]
  · rw [hz] at hI
    refine (hseq (z + 1) (fun k W => I k W ∧ W.heap[z + 1]? = some (.loop (rec .ready)) ∧ W.heap[z]? = some (.deferred (some []))) W1 hb1 ?_ ?_ ?_ ⟨hI1, hL1, hK1⟩).mono ?_
    · rintro k A B ⟨hi, hl, hk⟩ hgr
      exact ⟨hI k A B none hi hgr (fun r e => by cases e), (hgr.block _ (Array.getElem?_eq_some_iff.1 hl).1 (by simp)).trans hl, (hgr.block _ (Array.getElem?_eq_some_iff.1 hk).1 (by simp)).trans hk⟩
    · rintro k A v ⟨hi, hl, hk⟩ hst
      exact ⟨hIS k A v hi hst, (Below.heap_setCell _ _ _ _ (by show z + 1 ≠ Bn; omega)).trans hl, (Below.heap_setCell _ _ _ _ (by show z ≠ Bn; omega)).trans hk⟩
    · rintro k W hkN ⟨hi, hl, hk⟩
      have hlt : z + 1 < W.heap.size := (Array.getElem?_eq_some_iff.1 hl).1
      have hy := run_yield (P := P) (args := encs k) hl (by rw [hrec]; exact hps k)
      rw [hrec] at hy
      refine ⟨fn, _, assign, body, hy, roundIn_of_wpIn hfn (hassign _ k W _ ⟨_, run_beginRound hl (by rw [hrec]), ?_⟩)⟩
      obtain ⟨busy, hbusy⟩ : ∃ b : Loop, { rec .ready with state := .busy } = b := ⟨_, rfl⟩
      have hl2 : (W.putObj (z + 1) (.loop busy)).heap[z + 1]? = some (.loop busy) := World.putObj_heap_same hlt
      have hk2 : (W.putObj (z + 1) (.loop busy)).heap[z]? = some (.deferred (some [])) := (World.putObj_heap_other (by omega)).trans hk
      rw [hbusy]
      refine wpIn_mono (hbody _ k _ hkN (hI.putObj _ hi (by omega) hl rfl)) ?_
      rintro e a3 W3 hp
      cases e with
      | normal =>
        obtain ⟨hk3, hkp3, hi3⟩ := hp
        rw [hz] at hk3
        have hl3 := hk3.same _ _ (by omega) hl2 rfl
        have hend := run_endRound (P := P) none hl3
        have hk4 := hk3.same _ _ (Nat.le_refl _) hk2 rfl
        refine ⟨_, _, hend, rfl, ⟨hI.putObj _ hi3 (by omega) hl3 rfl, ?_, (World.putObj_heap_other (by omega)).trans hk4⟩, ?_⟩
        · refine (World.putObj_heap_same (Array.getElem?_eq_some_iff.1 hl3).1).trans ?_
          rw [← hbusy, hrec]
          rfl
        · intro b hb
          have hbz := hKb b hb
          rw [World.putObj_heap_other (by omega), hkp3 b hb, World.putObj_heap_other (by omega)]
      | ret => exact hp.elim
      | exit id => exact hp.elim
      | goto t => exact hp.elim
      | panic ch => exact hp.elim
      | outgrown => exact hp.elim
    · rintro e W2 ⟨⟨v, rfl⟩, hi, hl, hk⟩
      have hend := run_endLoop (P := P) hl (by rw [hrec]; simp)
      rw [show (rec .ready).pending = none by rw [hrec]] at hend
      refine ⟨none, _, hend, ?_⟩
      exact hdone _ _ (by omega) (hI.putObj _ hi (by omega) hl rfl) ((World.putObj_heap_other (by omega)).trans hk)
end TopSeq
