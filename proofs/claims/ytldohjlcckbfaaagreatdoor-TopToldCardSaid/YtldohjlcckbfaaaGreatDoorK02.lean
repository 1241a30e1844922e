/- A part of the proof that pomadetop.TopTold returns true for every input: XKeep. No condition beyond those that each theorem states. -/
import Derived.Orders
import Derived.Defers
namespace Go
variable {P : Program}
theorem Leaves_congr {fn : Func} {t t' : Array Value} {R : Ending → World → Prop} (h : ∀ w, (results fn t).run P w = (results fn t').run P w) :
    ∀ (ds : List Deferred) (u : FrameMode) (w : World), Leaves P fn t R ds u w → Leaves P fn t' R ds u w
  | [], .returning, w, ⟨v, h1, h2⟩ => ⟨v, (h w).symm.trans h1, h2⟩
  | [], .panicking _, _, hl => hl
  | [], .run, _, hl => hl
  | d :: ds, u, w, ⟨h0, fv, cap, f, args, h1, h2, h3⟩ => by
    refine ⟨h0, fv, cap, f, args, h1, h2, fun c cs hc => ?_⟩
    obtain ⟨e, u', w', fr, hR, rest⟩ := h3 c cs hc
    refine ⟨e, u', w', fr, ?_, rest⟩
    cases e with
    | returned v => exact Leaves_congr h ds _ _ hR
    | panicked chain => exact Leaves_congr h ds _ _ hR
    | outgrown => exact hR
end Go
