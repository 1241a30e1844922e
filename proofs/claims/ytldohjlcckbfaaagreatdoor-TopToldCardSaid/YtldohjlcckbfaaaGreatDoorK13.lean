/- A part of the proof that pomadetop.TopTold returns true for every input: HandB, HandPa. No condition beyond those that each theorem states. -/
import Derived.Shelf.Strings.SlTrimAscii
import Derived.Laws.IdiomStrings
import Derived.Laws.AppendOwn
import Derived.Sort.WalkB12
import Derived.Lib.SlicesMore
import Derived.Lib.OwnBridge
import Derived.Test.YtldohjlcckbfaaaGreatDoorK01
import Derived.Test.YtldohjlcckbfaaaGreatDoorK11
import Derived.Test.YtldohjlcckbfaaaGreatDoorK12
namespace Go.Proofs.YtldohjlcckbfaaaGreatDoor.Hand
open Go.RowKit Go.Proofs.YtldohjlcckbfaaaGreatDoorW.PrintWords Go.Proofs.YtldohjlcckbfaaaGreatDoorW.PrintLast Go.Proofs.YtldohjlcckbfaaaGreatDoorW.PrintMore
set_option linter.unusedVariables false
set_option linter.unusedSimpArgs false
theorem dropW_nil {α : Type} {p : α → Bool} {l : List α} : l.dropWhile p = [] ↔ ∀ x ∈ l, p x = true := by
  induction l with
  | nil => simp
  | cons a l ih =>
    rw [List.dropWhile_cons]
    by_cases h : p a = true
    · rw [if_pos h, ih]; simp [h]
    · rw [if_neg h]; simp [h]
theorem trimS_nil (l cs : List UInt8) : Lib.trimS l cs = [] ↔ l.all (cs.contains ·) = true := by
  constructor
  · intro h
    unfold Lib.trimS Lib.trimLeftS at h
    rw [dropW_nil] at h
    have h2 : l.reverse.dropWhile (cs.contains ·) = [] := by
      cases hd : l.reverse.dropWhile (cs.contains ·) with
      | nil => rfl
      | cons x t =>
        have hx : ¬ cs.contains x = true := by
          have := List.head_dropWhile_not (cs.contains ·) (w := by rw [hd]; simp) (l := l.reverse)
          simp only [hd, List.head_cons] at this
          simpa using this
        exact absurd (h x (by unfold Lib.trimRightS; rw [hd]; simp)) hx
    rw [dropW_nil] at h2
    exact List.all_eq_true.2 fun x hx => h2 x (by simpa using hx)
  · intro h
    have hr : Lib.trimRightS l cs = [] := by
      unfold Lib.trimRightS
      rw [dropW_nil.2 (fun x hx => List.all_eq_true.1 h x (by simpa using hx))]
      rfl
    unfold Lib.trimS
    rw [hr]
    rfl
def signs (s : ByteArray) : Bool := s.data.toList.all ([43, 45].contains ·)
def till_walked.f (s : ByteArray) : Option Int := if (s.size : Int) > 60 then some 3 else if signs s = true then some 0 else some 5
theorem signs_trim (s : ByteArray) : (Lib.trimS s.data.toList [43, 45]).isEmpty = signs s := by
  have h := trimS_nil s.data.toList [43, 45]
  rw [Bool.eq_iff_iff, List.isEmpty_iff]
  exact h
theorem till_walked.calls (a0 : ByteArray) (r : Int) (w : World) (h : till_walked.f a0 = some r) :
    Calls Tryz.prog 79 #[.string a0] w fun e w' => e = .returned (.int .i64 r) ∧ Below w.heap.size w w' := by
  have H := h
  unfold till_walked.f at H
  have e2 := signs_trim a0
  go_enter Tryz.func79, Tryz.ntmps79
  by_cases c1 : (a0.size : Int) > 60
  · rw [if_pos c1] at H
    obtain rfl := Option.some.inj H
    have c1' : decide ((60 : Int) < (a0.size : Int)) = true := decide_eq_true c1
    go_wp2
    go_ret
    exact ⟨rfl, Below.refl _ _⟩
  · rw [if_neg c1] at H
    have c1' : decide ((60 : Int) < (a0.size : Int)) = false := decide_eq_false c1
    by_cases c2 : signs a0 = true
    · rw [if_pos c2] at H
      obtain rfl := Option.some.inj H
      rw [c2] at e2
      go_wp2_with (go_at_call 56; refine (Any.strings_Trim_laid Tryz.lays160 (by kernel_rfl) a0 ⟨#[43, 45]⟩ w (by omega) (by decide) (ascii_of_all (by decide))).mono ?_; rintro e w1 ⟨rfl, hb⟩)
      go_ret
      exact ⟨rfl, hb⟩
    · rw [if_neg c2] at H
      obtain rfl := Option.some.inj H
      rw [Bool.eq_false_iff.2 c2] at e2
      go_wp2_with (go_at_call 56; refine (Any.strings_Trim_laid Tryz.lays160 (by kernel_rfl) a0 ⟨#[43, 45]⟩ w (by omega) (by decide) (ascii_of_all (by decide))).mono ?_; rintro e w1 ⟨rfl, hb⟩)
      go_ret
      exact ⟨rfl, hb⟩
def till_path.f (k : Nat) (s : ByteArray) : Option (List Int) := if s.size ≤ 9223372036854775807 then Go.Proofs.YtldohjlcckbfaaaGreatDoor.Pre.till_sums_byte.f k (bytesOf s) else none
theorem bytesRow_cell (s : ByteArray) (cap j : Nat) (h : j < s.size) : (bytesRow s cap)[j]? = some (.int .u8 ((bytesOf s).getD j 0)) := by
  unfold bytesRow bytesOf
  have h1 : j < s.data.size := h
  rw [Array.getElem?_append_left (by simpa using h1), List.getD_eq_getElem?_getD, List.getElem?_map, Array.getElem?_map, Array.getElem?_toList, Array.getElem?_eq_getElem h1]
  rfl
theorem bytes_C (w : World) (s : ByteArray) (cap : Nat) (f : Nat × Nat) (hs : s.size ≤ 9223372036854775807) :
    Kd.C (Kd.int .u8) (w.alloc (.cells (bytesRow s cap) 5 f)).drew (some ⟨w.heap.size, 0, none⟩) (bytesOf s).length (bytesOf s) := by
  refine Kd.C_drew (Kd.C_of_reads (enc := Value.int .u8) (d := 0) ⟨rfl, by rw [bytesOf_length]; exact hs, fun hn => ⟨_, rfl, fun j hj => ?_⟩⟩)
  rw [bytesOf_length] at hj
  have h := bytesRow_cell s cap j hj
  have hx : (w.alloc (.cells (bytesRow s cap) 5 f)).heap[w.heap.size]? = some (.cells (bytesRow s cap) 5 f) := by
    show (w.heap.push _)[w.heap.size]? = _
    simp
  have ha : (⟨w.heap.size, 0, none⟩ : Addr).add j = ⟨w.heap.size, j, none⟩ := by
    simp [Addr.add]
    exact fun h => h.symm
  rw [ha]
  simp only [World.cell?, hx]
  simpa using h
theorem till_path.calls (k : Nat) (a0 : ByteArray) (r : List Int) (w : World) (h : till_path.f k a0 = some r) :
    Calls Tryz.prog 44 #[.string a0] w fun e w' => ∃ v0_ : Value, e = .returned (v0_) ∧ Kd.R (Kd.int .i64) 3 w' w.heap.size (fun _ => True) v0_ r ∧ Below w.heap.size w w' := by
  have hcv := fun w => run_bytes_of_string (P := Tryz.prog) w 9 98 5 a0 Tryz.underlying9 Tryz.underlying98 Tryz.underlying5
  have hsz : a0.size ≤ 9223372036854775807 := by
    unfold till_path.f at h
    split at h
    · assumption
    · cases h
  replace h : Go.Proofs.YtldohjlcckbfaaaGreatDoor.Pre.till_sums_byte.f k (bytesOf a0) = some r := by
    unfold till_path.f at h
    rwa [if_pos hsz] at h
  have hca : ∀ w1 : World, a0.size ≤ grownCap w1 a0.size 0 5 := fun w1 => grownCap_ge _ _ _ _
  have hcall := fun (cap : Nat) (f : Nat × Nat) (hc : (bytesOf a0).length ≤ cap) => Go.Proofs.YtldohjlcckbfaaaGreatDoor.Pre.till_sums_byte.calls k (some ⟨w.heap.size, 0, none⟩) cap (bytesOf a0) r _ (bytes_C w a0 cap f hsz) hc h
  rw [bytesOf_length] at hcall
  have hB : ∀ o, Below w.heap.size w (w.alloc o).drew := fun o => ((Below.refl _ w).alloc (Nat.le_refl _) o).drew
  go_enter Tryz.func44, Tryz.ntmps44
  go_wp2_with (go_at_call 80; refine (hcall _ _ (hca _)).mono ?_; rintro e w2 ⟨v0, rfl, ho, hb⟩)
  go_ret
  exact ⟨_, rfl, Kd.R_lower ho (hB _).size, (hB _).trans (hb.mono (hB _).size)⟩
end Go.Proofs.YtldohjlcckbfaaaGreatDoor.Hand
namespace Go.Proofs.YtldohjlcckbfaaaGreatDoor.Hand
open Go.RowKit Go.Proofs.YtldohjlcckbfaaaGreatDoorW.PrintWords Go.Proofs.YtldohjlcckbfaaaGreatDoorW.PrintLast Go.Proofs.YtldohjlcckbfaaaGreatDoorW.PrintMore
set_option linter.unusedVariables false
set_option linter.unusedSimpArgs false
open Go.Proofs.YtldohjlcckbfaaaGreatDoor.MathP Go.Shelf Go.Lib Go.Sort
def L (s : ByteArray) : List UInt8 := s.data.toList
def B (l : List UInt8) : ByteArray := ⟨l.toArray⟩
theorem L_B (l : List UInt8) : L (B l) = l := by simp [L, B]
theorem B_L (s : ByteArray) : B (L s) = s := by cases s; simp [L, B]
theorem L_length (s : ByteArray) : (L s).length = s.size := rfl
theorem B_size (l : List UInt8) : (B l).size = l.length := rfl
theorem L_append (a b : ByteArray) : L (a ++ b) = L a ++ L b := by simp [L, ByteArray.data_append]
theorem L_extract (s : ByteArray) (i j : Nat) : L (s.extract i j) = ((L s).take j).drop i := by
  simp [L, ByteArray.data_extract, List.extract_eq_take_drop, List.drop_take]
theorem dig_contains (c : UInt8) : ([49, 50, 51, 52, 53, 54, 55, 56, 57] : List UInt8).contains c = isDig c := by
  have h : ∀ n : Fin 256, ([49, 50, 51, 52, 53, 54, 55, 56, 57] : List UInt8).contains (UInt8.ofNat n) = isDig (UInt8.ofNat n) := by decide +kernel
  have := h ⟨c.toNat, c.toNat_lt⟩
  simpa using this
theorem digs_trim (s : ByteArray) : (Lib.trimS s.data.toList [49, 50, 51, 52, 53, 54, 55, 56, 57]).isEmpty = (L s).all isDig := by
  have h := trimS_nil s.data.toList [49, 50, 51, 52, 53, 54, 55, 56, 57]
  rw [Bool.eq_iff_iff, List.isEmpty_iff, h]
  simp only [dig_contains]; rfl
def parrot_digits.f (s : ByteArray) : Option Int := some (digE (L s))
theorem parrot_digits.calls (a0 : ByteArray) (r : Int) (w : World) (h : parrot_digits.f a0 = some r) :
    Calls Tryz.prog 59 #[.string a0] w fun e w' => e = .returned (.int .i64 r) ∧ Below w.heap.size w w' := by
  unfold parrot_digits.f at h
  have H := Option.some.inj h
  clear h
  unfold digE at H
  have e2 := digs_trim a0
  rw [L_length] at H
  go_enter Tryz.func59, Tryz.ntmps59
  by_cases c1 : a0.size > 200
  · rw [if_pos c1] at H
    subst H
    have c1' : decide ((200 : Int) < (a0.size : Int)) = true := decide_eq_true (by omega)
    go_wp2
    go_ret
    exact ⟨rfl, Below.refl _ _⟩
  · rw [if_neg c1] at H
    have c1' : decide ((200 : Int) < (a0.size : Int)) = false := decide_eq_false (by omega)
    by_cases c2 : (L a0).all isDig = true
    · rw [if_pos c2] at H
      subst H
      rw [c2] at e2
      go_wp2_with (go_at_call 56; refine (Any.strings_Trim_laid Tryz.lays160 (by kernel_rfl) a0 ⟨#[49, 50, 51, 52, 53, 54, 55, 56, 57]⟩ w (by omega) (by decide) (ascii_of_all (by decide))).mono ?_; rintro e w1 ⟨rfl, hb⟩)
      go_ret
      exact ⟨rfl, hb⟩
    · rw [if_neg c2] at H
      subst H
      rw [Bool.eq_false_iff.2 c2] at e2
      go_wp2_with (go_at_call 56; refine (Any.strings_Trim_laid Tryz.lays160 (by kernel_rfl) a0 ⟨#[49, 50, 51, 52, 53, 54, 55, 56, 57]⟩ w (by omega) (by decide) (ascii_of_all (by decide))).mono ?_; rintro e w1 ⟨rfl, hb⟩)
      go_ret
      exact ⟨rfl, hb⟩
def parrot_word.f (s : ByteArray) : Option Int := some (wordE (L s))
theorem parrot_word.calls (a0 : ByteArray) (r : Int) (w : World) (h : parrot_word.f a0 = some r) :
    Calls Tryz.prog 30 #[.string a0] w fun e w' => e = .returned (.int .i64 r) ∧ Below w.heap.size w w' := by
  unfold parrot_word.f at h
  have H := Option.some.inj h
  clear h
  unfold wordE at H
  have hdc := fun w => parrot_digits.calls a0 (digE (L a0)) w rfl
  obtain ⟨e1, he1⟩ : ∃ e1, digE (L a0) = e1 := ⟨_, rfl⟩
  rw [he1] at H hdc
  go_enter Tryz.func30, Tryz.ntmps30
  by_cases c : e1 = 0
  · subst c
    rw [if_neg (by decide)] at H
    by_cases c2 : L a0 = []
    · rw [if_pos c2] at H
      subst H
      have c3 : a0 = ⟨#[]⟩ := by rw [← B_L a0, c2]; rfl
      subst c3
      go_wp2_with (go_at_call 59; refine (hdc _).mono ?_; rintro e w0 ⟨rfl, hb0⟩)
      go_ret
      exact ⟨rfl, hb0⟩
    · rw [if_neg c2] at H
      subst H
      have c3 : a0.toList.isEmpty = false := by
        rw [ByteArray.toList_eq]; cases hl : a0.data.toList with | nil => exact absurd hl c2 | cons _ _ => rfl
      go_wp2_with (go_at_call 59; refine (hdc _).mono ?_; rintro e w0 ⟨rfl, hb0⟩)
      go_ret
      exact ⟨rfl, hb0⟩
  · rw [if_pos c] at H
    subst H
    have c' : (e1 != 0) = true := bne_iff_ne.2 c
    go_wp2_with (go_at_call 59; refine (hdc _).mono ?_; rintro e w0 ⟨rfl, hb0⟩)
    go_ret
    exact ⟨rfl, hb0⟩
abbrev enc8 : UInt8 → Value := fun b => Value.int .u8 (b.toNat : Int)
set_option maxHeartbeats 1600000 in
set_option maxRecDepth 1000000 in
theorem reverse_bytes (blk off cap : Nat) (d : Array UInt8) (w : World) (hH : Holds enc8 w blk off d) (hsz : d.size ≤ 9223372036854775807) :
    Calls Tryz.prog 147 #[.slice (some ⟨blk, off, none⟩) d.size cap] w fun e w' => e = .returned (.tuple #[]) ∧ ∃ n, w' = putRow enc8 (Sort.ahead w n) blk off d.reverse := by
  have mixed : Tryz.prog.follows Departure.mixedOrders = true := by kernel_rfl
  go_enter Tryz.func147, Tryz.ntmps147
  go_wp2
  go_loopg [2, 3] d.size (fun k s2 s3 wr => ∃ (i jn : Nat) (jz : Int) (dk : Array UInt8) (n : Nat), s2 = .int .i64 i ∧ s3 = .int .i64 jz ∧ ((i : Int) < jz → jz = jn ∧ jn < d.size) ∧ (¬ (i : Int) < jz → ¬ i < jn) ∧ jn - i ≤ k ∧
    dk.size = d.size ∧ wr = putRow enc8 (Sort.ahead w n) blk off dk ∧ reverseLoop i jn dk = reverseLoop 0 (d.size - 1) d)
  case atStart => exact ⟨0, d.size - 1, (d.size : Int) - 1, d, 0, rfl, rfl, fun h => ⟨by omega, by omega⟩, fun h => by omega, by omega, rfl, (putRow_self enc8 w blk off d hH).symm, rfl⟩
  case round =>
    obtain ⟨i, jn, jz, dk, n, rfl, rfl, h1, h2, hk, hds, hwr, heq⟩ := hrel
    by_cases hlt : (i : Int) < jz
    · obtain ⟨rfl, hjn⟩ := h1 hlt
      have hij : i < jn := by omega
      have hid : i < d.size := by omega
      have hHk : Holds enc8 wr blk off dk := by rw [hwr]; exact holds_putRow enc8 _ blk off d dk (holds_ahead enc8 w n blk off d hH) hds
      obtain ⟨ci, fi⟩ := hHk i (by omega)
      obtain ⟨cj, fj⟩ := hHk jn (by omega)
      have A : Aside (wr = putRow enc8 (Sort.ahead w n) blk off dk) := hwr
      clear hwr hHk hH h1 h2
      go_wp2_with fail
      go_region_o
      go_wp2
      go_roundg (jn - 1 - (i + 1))
      case measure => omega
      case rel =>
        rw [reverseLoop, if_pos hij] at heq
        exact ⟨i + 1, jn - 1, (jn : Int) - 1, swp dk i jn, n + 1, by simp, rfl, fun h => ⟨by omega, by omega⟩, fun h => by omega, Nat.le_refl _, by rw [size_swp]; exact hds,
          swap_world enc8 (by omega) (by omega) A.out (by first | rfl | simp [enc8, getElem!_pos, show jn < dk.size by omega]) (by first | rfl | simp [enc8, getElem!_pos, show i < dk.size by omega]), heq⟩
    · have hnot := h2 hlt
      go_wp2
      go_end0
      refine ⟨rfl, n, ?_⟩
      rw [reverseLoop, if_neg hnot] at heq
      rw [← Lib.reverseLoop_reverse, ← heq]
theorem bytesRow_u8 (s : ByteArray) (cap j : Nat) (h : j < s.data.size) : (bytesRow s cap)[j]? = some (enc8 s.data[j]!) := by
  unfold bytesRow
  rw [Array.getElem?_append_left (by simpa using h), Array.getElem?_map, Array.getElem?_eq_getElem h, getElem!_pos _ j h]
  rfl
theorem strOfNums_B (l : List UInt8) : strOfNums (l.map fun b => (b.toNat : Int)) = B l := by
  have h : ((fun n : Int => UInt8.ofNat n.toNat) ∘ fun b : UInt8 => (b.toNat : Int)) = id := by funext b; simp
  unfold strOfNums B
  rw [List.map_map, h, List.map_id]
theorem rev_C {w : World} {g : Nat} {s : ByteArray} (hH : Holds enc8 w g 0 s.data) (n : Nat) (hs : s.size ≤ 1000000) :
    Kd.C (Kd.int .u8) (putRow enc8 (Sort.ahead w n) g 0 s.data.reverse) (some ⟨g, 0, none⟩) s.size ((L s).reverse.map fun b => (b.toNat : Int)) := by
  have hl : ((L s).reverse.map fun b : UInt8 => (b.toNat : Int)).length = s.size := by rw [List.length_map, List.length_reverse, L_length]
  refine Kd.C_of_reads (enc := Value.int .u8) (d := 0) ⟨hl, by omega, fun hn => ⟨_, rfl, fun j hj => ?_⟩⟩
  have ha : (⟨g, 0, none⟩ : Addr).add j = ⟨g, j, none⟩ := by
    simp [Addr.add]
    exact fun h => h.symm
  rw [ha]
  have hj2 : j < s.data.reverse.size := by rw [Array.size_reverse]; exact hj
  have := cell?_putRow enc8 (Sort.ahead w n) g 0 s.data s.data.reverse (holds_ahead enc8 w n g 0 s.data hH) (by simp) j hj2
  rw [Nat.zero_add] at this
  rw [this, getElem!_pos _ j hj2]
  unfold L
  rw [← Array.toList_reverse, List.getD_eq_getElem?_getD, List.getElem?_map, Array.getElem?_toList, Array.getElem?_eq_getElem hj2]
  rfl
def parrot_reversed.f (s : ByteArray) : Option ByteArray := if s.size ≤ 1000000 then some (B (L s).reverse) else none
set_option maxRecDepth 100000 in
theorem parrot_reversed.calls (a0 : ByteArray) (r : ByteArray) (w : World) (h : parrot_reversed.f a0 = some r) :
    Calls Tryz.prog 102 #[.string a0] w fun e w' => e = .returned (.string r) ∧ Below w.heap.size w w' := by
  unfold parrot_reversed.f at h
  by_cases hsz : a0.size ≤ 1000000
  · rw [if_pos hsz] at h
    have h := Option.some.inj h
    subst h
    have hcv := fun w => run_bytes_of_string (P := Tryz.prog) w 9 98 5 a0 Tryz.underlying9 Tryz.underlying98 Tryz.underlying5
    have hH : ∀ cap, Holds enc8 (w.alloc (.cells (bytesRow a0 cap) 5 ((bytesRow a0 cap).size, (bytesRow a0 cap).size + 1))).drew w.heap.size 0 a0.data := by
      intro cap j hj
      have hx : (w.alloc (.cells (bytesRow a0 cap) 5 ((bytesRow a0 cap).size, (bytesRow a0 cap).size + 1))).drew.heap[w.heap.size]? = some (.cells (bytesRow a0 cap) 5 ((bytesRow a0 cap).size, (bytesRow a0 cap).size + 1)) := by
        show (w.heap.push _)[w.heap.size]? = _
        simp
      have hsz2 : (bytesRow a0 cap).size ≥ a0.data.size := by simp [bytesRow]
      rw [Nat.zero_add]
      constructor
      · simp only [World.cell?, hx]
        simpa using bytesRow_u8 a0 cap j hj
      · simp only [World.frozen?, hx]
        simp; omega
    have hcall := fun cap => reverse_bytes w.heap.size 0 (grownCap w a0.size 0 5) a0.data _ (hH cap) (by have : a0.data.size = a0.size := rfl; omega)
    go_enter Tryz.func102, Tryz.ntmps102
    go_wp2_with (go_at_call 147; refine (hcall _).mono ?_; rintro e w2 ⟨rfl, n, hw2⟩; have hcb := Kd.C_string (P := Tryz.prog) (c := grownCap w a0.size 0 5) Tryz.underlying98 Tryz.underlying5 Tryz.underlying9 (rev_C (hH (grownCap w a0.size 0 5)) n hsz); have hB := below_putRow (enc := enc8) (B := w.heap.size) (w0 := w) (q := n) (d := a0.data.reverse) (g := w.heap.size) (below_drew (below_alloc (Below.refl w.heap.size w) (.cells (bytesRow a0 (grownCap w a0.size 0 5)) 5 ((bytesRow a0 (grownCap w a0.size 0 5)).size, (bytesRow a0 (grownCap w a0.size 0 5)).size + 1)))) (Nat.le_refl _); rw [← hw2, strOfNums_B] at hcb; rw [← hw2] at hB; clear hw2 hcall hH hcv)
    go_ret
    exact ⟨rfl, hB⟩
  · rw [if_neg hsz] at h; cases h
end Go.Proofs.YtldohjlcckbfaaaGreatDoor.Hand
