/- Orders, call by call. -/
import Derived.Test.YtndpnlpidphflaaPrint2
import Derived.Test.YtndpnlpidphflaaEvC
import Derived.Test.YtndpnlpidphflaaEvB
namespace Go.Proofs.Ytndpnlpidphflaa.Pure
open Go.RowKit Go.Proofs.Ytndpnlpidphflaa.Print Go.Proofs.Ytndpnlpidphflaa.Math Go.Proofs.YtndpnlpidphflaaW.PrintWords Go.Proofs.YtndpnlpidphflaaW.PrintLast Go.Proofs.YtndpnlpidphflaaW.PrintMore
set_option linter.unusedVariables false

open Go.Proofs.Ytndpnlpidphflaa.Hand

/-- Who is called t calls later. -/
def gcall (k : Int) : Nat → Int → List Int → Int
  | 0, a, left => left.getD ((a + k - 1) % (left.length : Int)).toNat 0
  | t + 1, a, left => gcall k t ((a + k - 1) % (left.length : Int)) (left.eraseIdx ((a + k - 1) % (left.length : Int)).toNat)

theorem gcall_state (k : Int) (n d : Nat) : ∀ i, gcall k d (jst k n i).2.1 (jst k n i).2.2 = gcall k 0 (jst k n (i + d)).2.1 (jst k n (i + d)).2.2 := by
  induction d with
  | zero => intro i; rfl
  | succ d ih =>
    intro i
    have := ih (i + 1)
    rw [show i + (d + 1) = i + 1 + d by omega, ← this]
    rfl

theorem jst_app (k : Int) (n d : Nat) : (jst k n d).1 = (List.range d).map fun t => gcall k t 0 (ids n) := by
  induction d with
  | zero => rfl
  | succ d ih =>
    rw [List.range_succ, List.map_append, ← ih]
    have := gcall_state k n d 0
    rw [Nat.zero_add] at this
    show (jst k n d).1 ++ [_] = _
    congr 1
    simp only [List.map_cons, List.map_nil]
    congr 1
    exact this.symm

theorem gcall_at (k : Int) (t : Nat) : ∀ (a : Int) (left : List Int), t < left.length → gcall k t a left = left.getD ((a + atv left.length k t) % (left.length : Int)).toNat 0 := by
  induction t with
  | zero =>
    intro a left h
    rw [show ((0 : Nat) : Int) = 0 from rfl, atv_zero, Int.add_emod_emod]
    simp only [gcall]
    congr 3; omega
  | succ t ih =>
    intro a left h
    obtain ⟨L, hL⟩ : ∃ L, left.length = L + 1 := ⟨left.length - 1, by omega⟩
    have hx := mod_at (a := a + k - 1) (n := left.length) (by omega)
    obtain ⟨x, hxx⟩ : ∃ x : Nat, (a + k - 1) % (left.length : Int) = x := ⟨_, (Int.toNat_of_nonneg hx.1).symm⟩
    have hxe := Int.mul_ediv_add_emod (a + k - 1) (left.length : Int)
    rw [hxx] at hx hxe
    have hlen : (left.eraseIdx x).length = L := by rw [List.length_eraseIdx_of_lt (by omega)]; omega
    have hp := atv_range (L : Int) k t (by omega) (by omega)
    have hs := atv_succ (L : Int) k t (by omega) (by omega)
    simp only [gcall, hxx, Int.toNat_natCast]
    rw [ih x _ (by omega), hlen]
    rw [hL] at hx hxe
    rw [hL, show ((L + 1 : Nat) : Int) = (L : Int) + 1 by omega, show ((t + 1 : Nat) : Int) = (t : Int) + 1 by omega, hs]
    obtain ⟨p, hpe⟩ : ∃ p, atv (L : Int) k t = p := ⟨_, rfl⟩
    rw [hpe] at hp ⊢
    rw [Int.add_emod_emod]
    have hq : (a + (p + k)) % ((L : Int) + 1) = (x + 1 + p) % ((L : Int) + 1) := by
      have e : a + (p + k) = (x + 1 + p) + ((L : Int) + 1) * ((a + k - 1) / ((L + 1 : Nat) : Int)) := by
        rw [show ((L + 1 : Nat) : Int) = (L : Int) + 1 by omega] at hxe ⊢
        omega
      rw [e, Int.add_mul_emod_self_left]
    rw [hq]
    by_cases hw : (x : Int) + p < L
    · rw [Int.emod_eq_of_lt (by omega) hw, Int.emod_eq_of_lt (by omega) (by omega)]
      have e1 : ((x : Int) + p).toNat = (x + p.toNat) := by omega
      have e2 : ((x : Int) + 1 + p).toNat = (x + p.toNat) + 1 := by omega
      rw [e1, e2, List.getD_eq_getElem?_getD, List.getD_eq_getElem?_getD, List.getElem?_eraseIdx_of_ge (by omega)]
    · have e3 : ((x : Int) + p) % (L : Int) = x + p - L := by
        rw [show (x : Int) + p = (x + p - L) + L by omega, Int.add_emod_right, Int.emod_eq_of_lt (by omega) (by omega)]; omega
      have e4 : ((x : Int) + 1 + p) % ((L : Int) + 1) = x + p - L := by
        rw [show (x : Int) + 1 + p = (x + p - L) + ((L : Int) + 1) by omega, Int.add_emod_right, Int.emod_eq_of_lt (by omega) (by omega)]
      rw [e3, e4, List.getD_eq_getElem?_getD, List.getD_eq_getElem?_getD, List.getElem?_eraseIdx_of_lt (by omega)]

theorem ids_getD (n : Nat) (i : Int) (h0 : 0 ≤ i) (h1 : i < n) : (ids n).getD i.toNat 0 = i := by
  rw [List.getD_eq_getElem?_getD]
  simp [ids, show i.toNat < n by omega]
  omega

/-- The customers in the order in which they are called: At of 0, 1, 2 and so on. -/
theorem jst_atv (k : Int) (n d : Nat) (h : d ≤ n) : (jst k n d).1 = (List.range d).map fun t : Nat => atv n k (t : Int) := by
  rw [jst_app]
  apply List.map_congr_left
  intro t ht
  have ht := List.mem_range.1 ht
  have hr := atv_range (n : Int) k t (by omega) (by omega)
  rw [gcall_at k t 0 (ids n) (by rw [ids_length]; omega), ids_length, Int.zero_add, Int.emod_eq_of_lt hr.1 hr.2, ids_getD n _ hr.1 hr.2]

theorem jst_rd (k : Int) (n d : Nat) (h : d ≤ n) (i : Nat) (hi : i < d) : rd (jst k n d).1 i = atv n k i := by
  rw [rd_nat, jst_atv k n d h, List.getD_eq_getElem?_getD]
  simp [hi]

theorem jst_nodup (k : Int) (n d : Nat) (h : d ≤ n) : (jst k n d).1.Nodup := by
  rw [jst_atv k n d h, List.nodup_iff_pairwise_ne, List.pairwise_map]
  refine List.Pairwise.imp_of_mem ?_ (List.nodup_iff_pairwise_ne.1 List.nodup_range)
  intro a b ha hb hne he
  have ha := List.mem_range.1 ha
  have hb := List.mem_range.1 hb
  have h1 := turn_at k a n (by omega)
  have h2 := turn_at k b n (by omega)
  rw [he, h2] at h1
  omega

end Go.Proofs.Ytndpnlpidphflaa.Pure
