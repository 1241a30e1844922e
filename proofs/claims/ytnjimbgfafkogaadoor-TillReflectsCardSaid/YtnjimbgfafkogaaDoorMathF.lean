import Derived.Test.YtnjimbgfafkogaaDoorWWords
import Derived.Test.YtnjimbgfafkogaaDoorMathC
namespace Go.Proofs.YtnjimbgfafkogaaDoor.Math
open Go.Proofs.YtnjimbgfafkogaaDoorW.PrintWords
/-! Lists by a function of the place; the rows of the ballot's table. -/
theorem ofNat_range {α : Type} (f : Nat → α) (n i : Nat) (h : i < n) : ((List.range n).map f)[i]? = some (f i) := by
  rw [List.getElem?_map, List.getElem?_range h]; rfl
def tabF {α : Type} (f : Nat → α) (n : Nat) : List α := (List.range n).map f
theorem tabF_length {α : Type} (f : Nat → α) (n : Nat) : (tabF f n).length = n := by simp [tabF]
theorem tabF_congr {α : Type} {f g : Nat → α} {n : Nat} (h : ∀ i, i < n → f i = g i) : tabF f n = tabF g n :=
  List.map_congr_left fun i hi => h i (List.mem_range.1 hi)
theorem tabF_set {α : Type} (f : Nat → α) (n i : Nat) (v : α) : (tabF f n).set i v = tabF (fun j => if j = i then v else f j) n := by
  apply List.ext_getElem?
  intro j
  rw [List.getElem?_set, tabF_length]
  by_cases hj : j < n
  · have e1 : (tabF f n)[j]? = some (f j) := ofNat_range f n j hj
    have e2 : (tabF (fun j => if j = i then v else f j) n)[j]? = some (if j = i then v else f j) := ofNat_range _ n j hj
    rw [e1, e2]
    by_cases e : i = j
    · subst e; simp [hj]
    · rw [if_neg e, if_neg (Ne.symm e)]
  · have e1 : (tabF f n)[j]? = none := List.getElem?_eq_none (by rw [tabF_length]; omega)
    have e2 : (tabF (fun j => if j = i then v else f j) n)[j]? = none := List.getElem?_eq_none (by rw [tabF_length]; omega)
    rw [e1, e2]
    by_cases e : i = j
    · subst e; simp [hj]
    · rw [if_neg e]
theorem rd_tabF (g : Nat → Int) (n i : Nat) (h : i < n) : rd (tabF g n) (i : Int) = g i := by
  unfold rd tabF
  rw [Int.toNat_natCast, List.getD_eq_getElem?_getD, ofNat_range _ _ _ h]; rfl
theorem replicate_tabF {α : Type} (v : α) (n : Nat) : List.replicate n v = tabF (fun _ => v) n := by
  unfold tabF
  rw [List.map_const']; simp
theorem bal_small (t x y : Nat) (h : x + y ≤ 60) : bal t x y ≤ 118264581564861424 := by
  by_cases h0 : x + y = 0
  · obtain rfl : x = 0 := by omega
    obtain rfl : y = 0 := by omega
    rw [bal]; omega
  · by_cases hle : x ≤ t * y
    · rw [bal_low t x y hle (by omega)]; omega
    · have hf := bal_formula t (x + y) x y rfl (by omega) (by omega)
      have hc := C_small (x + y) y h
      have h1 : (x - t * y) * C (x + y) y ≤ (x + y) * C (x + y) y := Nat.mul_le_mul_right _ (by omega)
      rw [← hf] at h1
      have := Nat.le_of_mul_le_mul_left h1 (by omega)
      omega
section
variable (b t : Nat)
def balRow (i : Nat) : List Int := tabF (fun j => ((bal t i j : Nat) : Int)) (b + 1)
def balPart (i y : Nat) : List Int := tabF (fun j => if j < y then ((bal t i j : Nat) : Int) else 0) (b + 1)
theorem balPart_full (i : Nat) : balPart b t i (b + 1) = balRow b t i := tabF_congr fun j hj => by rw [if_pos hj]
theorem balPart_set (x y : Nat) (v : Int) (hv : v = ((bal t x y : Nat) : Int)) : (balPart b t x y).set y v = balPart b t x (y + 1) := by
  subst hv
  unfold balPart
  rw [tabF_set]
  refine tabF_congr fun j hj => ?_
  by_cases e : j = y
  · subst e; rw [if_pos rfl, if_pos (by omega)]
  · rw [if_neg e]
    by_cases h : j < y
    · rw [if_pos h, if_pos (by omega)]
    · rw [if_neg h, if_neg (by omega)]
theorem balPart_length (x y : Nat) : (balPart b t x y).length = b + 1 := tabF_length _ _
theorem balRow_length (x : Nat) : (balRow b t x).length = b + 1 := tabF_length _ _
theorem rd_balPart (x y j : Nat) (hj : j ≤ b) : rd (balPart b t x y) (j : Int) = if j < y then ((bal t x j : Nat) : Int) else 0 := rd_tabF _ _ _ (by omega)
theorem rd_balRow (x j : Nat) (hj : j ≤ b) : rd (balRow b t x) (j : Int) = ((bal t x j : Nat) : Int) := rd_tabF _ _ _ (by omega)
end
end Go.Proofs.YtnjimbgfafkogaaDoor.Math
