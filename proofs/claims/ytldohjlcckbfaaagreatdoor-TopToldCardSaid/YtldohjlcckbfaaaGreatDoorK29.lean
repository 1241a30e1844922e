/- A part of the proof that pomadetop.TopTold returns true for every input: HandTq, HandTr. No condition beyond those that each theorem states. -/
import Derived.Test.YtldohjlcckbfaaaGreatDoorK28
namespace Go.Proofs.YtldohjlcckbfaaaGreatDoor.Hand
open Go.RowKit Go.Proofs.YtldohjlcckbfaaaGreatDoorW.PrintWords Go.Proofs.YtldohjlcckbfaaaGreatDoorW.PrintLast Go.Proofs.YtldohjlcckbfaaaGreatDoorW.PrintMore
set_option linter.unusedVariables false
set_option linter.unusedSimpArgs false
open Go.Proofs.YtldohjlcckbfaaaGreatDoor.Pre
open TopWords
theorem digits_calls : ∀ (m : Nat) (n : Int), n.natAbs ≤ m → n.natAbs ≤ 4611686018427387904 → ∀ w : World, Calls Tryz.prog 16 #[.int .i64 n] w fun e w' => e = .returned (.string (itoaB n)) ∧ Below w.heap.size w w' := by
  intro m
  induction m with
  | zero =>
    intro n h _ w
    obtain rfl : n = 0 := by omega
    have := digits_s0 w
    rw [← itoaB_small 0 (by decide)] at this
    exact this
  | succ m ih =>
    intro n hn hb w
    by_cases h0 : 0 ≤ n
    · obtain ⟨u, rfl⟩ : ∃ u : Nat, n = u := ⟨n.toNat, by omega⟩
      by_cases h10 : u < 10
      · have hc : u = 0 ∨ u = 1 ∨ u = 2 ∨ u = 3 ∨ u = 4 ∨ u = 5 ∨ u = 6 ∨ u = 7 ∨ u = 8 ∨ u = 9 := by omega
        rcases hc with rfl | rfl | rfl | rfl | rfl | rfl | rfl | rfl | rfl | rfl
        · rw [itoaB_small 0 (by decide)]; exact digits_s0 w
        · rw [itoaB_small 1 (by decide)]; exact digits_s1 w
        · rw [itoaB_small 2 (by decide)]; exact digits_s2 w
        · rw [itoaB_small 3 (by decide)]; exact digits_s3 w
        · rw [itoaB_small 4 (by decide)]; exact digits_s4 w
        · rw [itoaB_small 5 (by decide)]; exact digits_s5 w
        · rw [itoaB_small 6 (by decide)]; exact digits_s6 w
        · rw [itoaB_small 7 (by decide)]; exact digits_s7 w
        · rw [itoaB_small 8 (by decide)]; exact digits_s8 w
        · rw [itoaB_small 9 (by decide)]; exact digits_s9 w
      · have hR : ∀ W, Calls Tryz.prog 16 #[.int .i64 ((u / 10 : Nat) : Int)] W fun e W' => e = .returned (.string (itoaB ((u / 10 : Nat) : Int))) ∧ Below W.heap.size W W' := fun W => ih _ (by omega) (by omega) W
        rw [itoaB_pos u (by omega)]
        have hc : u % 10 = 0 ∨ u % 10 = 1 ∨ u % 10 = 2 ∨ u % 10 = 3 ∨ u % 10 = 4 ∨ u % 10 = 5 ∨ u % 10 = 6 ∨ u % 10 = 7 ∨ u % 10 = 8 ∨ u % 10 = 9 := by omega
        rcases hc with h | h | h | h | h | h | h | h | h | h
        · rw [h]; exact digits_p0 u (by omega) (by omega) h w hR
        · rw [h]; exact digits_p1 u (by omega) (by omega) h w hR
        · rw [h]; exact digits_p2 u (by omega) (by omega) h w hR
        · rw [h]; exact digits_p3 u (by omega) (by omega) h w hR
        · rw [h]; exact digits_p4 u (by omega) (by omega) h w hR
        · rw [h]; exact digits_p5 u (by omega) (by omega) h w hR
        · rw [h]; exact digits_p6 u (by omega) (by omega) h w hR
        · rw [h]; exact digits_p7 u (by omega) (by omega) h w hR
        · rw [h]; exact digits_p8 u (by omega) (by omega) h w hR
        · rw [h]; exact digits_p9 u (by omega) (by omega) h w hR
    · obtain ⟨u, rfl⟩ : ∃ u : Nat, n = -(u : Int) := ⟨n.natAbs, by omega⟩
      by_cases h10 : u < 10
      · have hc : u = 1 ∨ u = 2 ∨ u = 3 ∨ u = 4 ∨ u = 5 ∨ u = 6 ∨ u = 7 ∨ u = 8 ∨ u = 9 := by omega
        rcases hc with rfl | rfl | rfl | rfl | rfl | rfl | rfl | rfl | rfl
        · rw [itoaB_neg1 1 (by decide) (by decide)]; exact digits_n1 w
        · rw [itoaB_neg1 2 (by decide) (by decide)]; exact digits_n2 w
        · rw [itoaB_neg1 3 (by decide) (by decide)]; exact digits_n3 w
        · rw [itoaB_neg1 4 (by decide) (by decide)]; exact digits_n4 w
        · rw [itoaB_neg1 5 (by decide) (by decide)]; exact digits_n5 w
        · rw [itoaB_neg1 6 (by decide) (by decide)]; exact digits_n6 w
        · rw [itoaB_neg1 7 (by decide) (by decide)]; exact digits_n7 w
        · rw [itoaB_neg1 8 (by decide) (by decide)]; exact digits_n8 w
        · rw [itoaB_neg1 9 (by decide) (by decide)]; exact digits_n9 w
      · have hR : ∀ W, Calls Tryz.prog 16 #[.int .i64 (-((u / 10 : Nat) : Int))] W fun e W' => e = .returned (.string (itoaB (-((u / 10 : Nat) : Int)))) ∧ Below W.heap.size W W' := fun W => ih _ (by omega) (by omega) W
        rw [itoaB_neg2 u (by omega)]
        have hq : (-(u : Int)).tdiv 10 = -((u / 10 : Nat) : Int) := by
          rw [Int.neg_tdiv, Int.tdiv_eq_ediv_of_nonneg (by omega)]
          omega
        have hmm : (-(u : Int)).tmod 10 = -((u % 10 : Nat) : Int) := by
          rw [Int.neg_tmod, Int.tmod_eq_emod_of_nonneg (by omega)]
          omega
        have hc : u % 10 = 0 ∨ u % 10 = 1 ∨ u % 10 = 2 ∨ u % 10 = 3 ∨ u % 10 = 4 ∨ u % 10 = 5 ∨ u % 10 = 6 ∨ u % 10 = 7 ∨ u % 10 = 8 ∨ u % 10 = 9 := by omega
        rcases hc with h | h | h | h | h | h | h | h | h | h
        · rw [h] at hmm; rw [h]; exact digits_m0 (-(u : Int)) _ (by omega) hq hmm (by omega) (by omega) w hR
        · rw [h] at hmm; rw [h]; exact digits_m1 (-(u : Int)) _ (by omega) hq hmm (by omega) (by omega) w hR
        · rw [h] at hmm; rw [h]; exact digits_m2 (-(u : Int)) _ (by omega) hq hmm (by omega) (by omega) w hR
        · rw [h] at hmm; rw [h]; exact digits_m3 (-(u : Int)) _ (by omega) hq hmm (by omega) (by omega) w hR
        · rw [h] at hmm; rw [h]; exact digits_m4 (-(u : Int)) _ (by omega) hq hmm (by omega) (by omega) w hR
        · rw [h] at hmm; rw [h]; exact digits_m5 (-(u : Int)) _ (by omega) hq hmm (by omega) (by omega) w hR
        · rw [h] at hmm; rw [h]; exact digits_m6 (-(u : Int)) _ (by omega) hq hmm (by omega) (by omega) w hR
        · rw [h] at hmm; rw [h]; exact digits_m7 (-(u : Int)) _ (by omega) hq hmm (by omega) (by omega) w hR
        · rw [h] at hmm; rw [h]; exact digits_m8 (-(u : Int)) _ (by omega) hq hmm (by omega) (by omega) w hR
        · rw [h] at hmm; rw [h]; exact digits_m9 (-(u : Int)) _ (by omega) hq hmm (by omega) (by omega) w hR
theorem digits_all (n : Int) (h0 : -1152921504606846976 ≤ n) (h1 : n ≤ 1152921504606846976) (w : World) : Calls Tryz.prog 16 #[.int .i64 n] w fun e w' => e = .returned (.string (itoaB n)) ∧ Below w.heap.size w w' :=
  digits_calls n.natAbs n (Nat.le_refl _) (by omega) w
theorem refused_calls (k : Int) (k0 : 0 ≤ k) (k1 : k ≤ 1000) (w : World) : Calls Tryz.prog 13 #[.int .i64 k] w fun e w' => e = .returned (.string (bangB k)) ∧ Below w.heap.size w w' := by
  have HD := Aside0.mk (fun W => digits_all k (by omega) (by omega) W)
  have hsz : (itoaB k).size ≤ 17 := itoaB_size k (by omega) (by omega)
  have HS := Aside0.mk (show bangB k = ⟨#[33, 32]⟩ ++ itoaB k from rfl)
  obtain ⟨s, hs⟩ : ∃ s, itoaB k = s := ⟨_, rfl⟩
  rw [hs] at HD HS hsz
  have hadd : ∀ (W : World), (Op.stringOp .add ⟨#[33, 32]⟩ s).run Tryz.prog W = .ok (.string (⟨#[33, 32]⟩ ++ s)) W := fun W => run_string_add_sum W _ _ (by show 2 + s.size ≤ 9223372036854775807; omega)
  clear hs
  go_enter Tryz.func13, Tryz.ntmps13
  go_wp2_with (go_at_call 16; refine (HD.out _).mono ?_; rintro e w1 ⟨rfl, hb1⟩; have HB1 := Aside0.mk hb1; clear hb1)
  go_ret
  exact ⟨by rw [HS.out]; rfl, HB1.out⟩
theorem nil_append (t : ByteArray) : (⟨#[]⟩ : ByteArray) ++ t = t := by apply WideShapes.bytes_inj; simp
theorem join_snoc (x : List UInt8) : ∀ ws : List (List UInt8), ws ≠ [] → Lib.join (ws ++ [x]) [32] = Lib.join ws [32] ++ [32] ++ x
  | [], h => absurd rfl h
  | [a], _ => by
    show Lib.join (a :: x :: []) [32] = _
    rw [join_cons]
    simp [Lib.join, List.intercalate, List.intersperse]
  | a :: b :: t, _ => by
    show Lib.join (a :: b :: (t ++ [x])) [32] = _
    rw [join_cons, join_cons]
    have := join_snoc x (b :: t) (by simp)
    rw [show b :: (t ++ [x]) = (b :: t) ++ [x] from rfl, this]
    simp
theorem lineOf_snoc (ws : List ByteArray) (x : ByteArray) (h : ws ≠ []) : lineOf (ws ++ [x]) = lineOf ws ++ ⟨#[32]⟩ ++ x := by
  apply WideShapes.bytes_inj
  unfold lineOf
  simp only [List.map_append, List.map_cons, List.map_nil]
  rw [join_snoc _ _ (by simpa using h)]
  simp
theorem lineOf_one (x : ByteArray) : lineOf [x] = x := by
  apply WideShapes.bytes_inj
  unfold lineOf
  simp [Lib.join, List.intercalate, List.intersperse]
theorem lineOf_two (x y : ByteArray) : lineOf [x, y] = x ++ ⟨#[32]⟩ ++ y := by
  have := lineOf_snoc [x] y (by simp)
  rw [lineOf_one] at this
  exact this
theorem lineOf_cons (x : ByteArray) (ws : List ByteArray) (h : ws ≠ []) : lineOf (x :: ws) = x ++ ⟨#[32]⟩ ++ lineOf ws := by
  apply WideShapes.bytes_inj
  unfold lineOf
  cases ws with
  | nil => exact absurd rfl h
  | cons y t =>
    simp only [List.map_cons]
    rw [join_cons]
    simp
set_option maxHeartbeats 4000000 in
set_option maxRecDepth 100000 in
theorem spaced_calls (A : Option Addr) (c : Nat) (N : List Int) (hl : N.length ≤ 1000) (hb : ∀ x ∈ N, -1152921504606846976 ≤ x ∧ x ≤ 1152921504606846976) (w : World) (h : ReadsInt w .i64 A N.length N) :
    Calls Tryz.prog 18 #[.slice A N.length c] w fun e w' => e = .returned (.string (lineOf (N.map itoaB))) ∧ Below w.heap.size w w' := by
  have HR := Aside0.mk h
  have HBd := Aside0.mk hb
  have HL := Aside0.mk hl
  clear h hb
  go_enter Tryz.func18, Tryz.ntmps18
  go_wp2
  go_loopg [3, 4] N.length (fun q v3 v4 wr => ∃ k : Nat, v4 = .int .i64 k ∧ k + q = N.length ∧ v3 = .string (lineOf ((N.take k).map itoaB)) ∧ Aside0 (Below w.heap.size w wr))
  case atStart => exact ⟨0, rfl, by omega, rfl, ⟨Below.refl _ _⟩⟩
  case round =>
    obtain ⟨k, rfl, hkq, rfl, HB⟩ := hrel
    by_cases hlt : k < N.length
    · obtain ⟨q, rfl⟩ : ∃ q, gk = q + 1 := ⟨gk - 1, by omega⟩
      have hd : decide ((k : Int) < (N.length : Int)) = true := decide_eq_true (by omega)
      obtain ⟨ad, rfl, hc⟩ := (HR.out.below HB.out).at_ k (by omega) (by omega)
      rw [Int.toNat_natCast] at hc
      have HX := Aside0.mk (show N.take (k + 1) = N.take k ++ [rd N k] by
        rw [← List.take_append_getElem hlt]
        simp [rd, List.getD_eq_getElem?_getD, List.getElem?_eq_getElem hlt])
      have hmem : rd N k ∈ N := by simp [rd, List.getD_eq_getElem?_getD, List.getElem?_eq_getElem hlt]
      obtain ⟨hx1, hx2⟩ := HBd.out (rd N k) hmem
      have hsz1 : (lineOf ((N.take k).map itoaB)).size ≤ 22000 := by
        have := line_len (N.take k) (by rw [List.length_take]; have := HL.out; omega) (fun x hx => by have := HBd.out x (List.mem_of_mem_take hx); omega)
        show (Lib.join _ _).toArray.size ≤ _
        rw [List.size_toArray]
        exact this
      obtain ⟨x, hx⟩ : ∃ x, rd N k = x := ⟨_, rfl⟩
      rw [hx] at hc HX hx1 hx2
      have hsz2 : (itoaB x).size ≤ 21 := by have := Lib.itoa_length_le x (by omega) (by omega); show (Lib.itoa x).toArray.size ≤ 21; rw [List.size_toArray]; omega
      have HD := Aside0.mk (fun W => digits_all x hx1 hx2 W)
      have HN1 := Aside0.mk (show lineOf ((N.take (k + 1)).map itoaB) = if k = 0 then itoaB x else lineOf ((N.take k).map itoaB) ++ ⟨#[32]⟩ ++ itoaB x by
        rw [HX.out, List.map_append, List.map_cons, List.map_nil]
        by_cases h0 : k = 0
        · subst h0
          rw [if_pos rfl, List.take_zero, List.map_nil, List.nil_append, lineOf_one]
        · rw [if_neg h0, lineOf_snoc]
          intro hn
          have hh := congrArg List.length hn
          rw [List.length_map, List.length_take, List.length_nil] at hh
          omega)
      have HK0 := Aside0.mk (show k = 0 → lineOf ((N.take k).map itoaB) = ⟨#[]⟩ by rintro rfl; rfl)
      obtain ⟨s, hs⟩ : ∃ s, lineOf ((N.take k).map itoaB) = s := ⟨_, rfl⟩
      obtain ⟨t, ht⟩ : ∃ t, itoaB x = t := ⟨_, rfl⟩
      rw [hs] at hsz1 HN1 HK0 ⊢
      rw [ht] at hsz2 HN1 HD
      have hadd1 : ∀ (W : World), (Op.stringOp .add s ⟨#[32]⟩).run Tryz.prog W = .ok (.string (s ++ ⟨#[32]⟩)) W := fun W => run_string_add_sum W _ _ (by show s.size + 1 ≤ 9223372036854775807; omega)
      have hadd2 : ∀ (W : World), (Op.stringOp .add (s ++ ⟨#[32]⟩) t).run Tryz.prog W = .ok (.string (s ++ ⟨#[32]⟩ ++ t)) W := fun W => run_string_add_sum W _ _ (by rw [ByteArray.size_append]; show s.size + 1 + t.size ≤ 9223372036854775807; omega)
      have hadd3 : ∀ (W : World), (Op.stringOp .add s t).run Tryz.prog W = .ok (.string (s ++ t)) W := fun W => run_string_add_sum W _ _ (by omega)
      clear hs ht hx hx1 hx2 hmem
      by_cases h0 : k = 0
      · have hd0 : decide (0 < (k : Int)) = false := decide_eq_false (by omega)
        have hd1 : decide (0 < k) = false := decide_eq_false (by omega)
        have hn1 : ¬ 0 < k := by omega
        have H0 := Aside0.mk h0
        clear h0
        go_wp2_with (go_at_call 16; refine (HD.out _).mono ?_; rintro e w1 ⟨rfl, hb1⟩; have HB1 := Aside0.mk (HB.out.trans (hb1.mono HB.out.size)); clear hb1)
        go_roundg q
        case measure => omega
        case rel => exact ⟨k + 1, by go_num, by omega, by rw [HN1.out, if_pos H0.out, HK0.out H0.out]; simp; exact nil_append t, HB1⟩
      · have hd0 : decide (0 < (k : Int)) = true := decide_eq_true (by omega)
        have hd1 : decide (0 < k) = true := decide_eq_true (by omega)
        have hn1 : 0 < k := by omega
        have H0 := Aside0.mk h0
        clear h0
        go_wp2_with (go_at_call 16; refine (HD.out _).mono ?_; rintro e w1 ⟨rfl, hb1⟩; have HB1 := Aside0.mk (HB.out.trans (hb1.mono HB.out.size)); clear hb1)
        go_roundg q
        case measure => omega
        case rel => exact ⟨k + 1, by go_num, by omega, by rw [HN1.out, if_neg H0.out], HB1⟩
    · have hd : decide ((k : Int) < (N.length : Int)) = false := decide_eq_false (by omega)
      obtain rfl : k = N.length := by omega
      rw [List.take_length]
      go_wp2
      go_ret
      exact ⟨by simp, HB.out⟩
def okB (b : UInt8) : Bool := decide (33 ≤ b.toNat) && decide (b.toNat ≤ 126)
def plainB (s : ByteArray) : Bool := decide (0 < s.size) && s.data.toList.all okB
theorem plainB_iff (s : ByteArray) : plainB s = true ↔ wordB s := by
  unfold plainB wordB okB
  rw [Bool.and_eq_true, decide_eq_true_eq, List.all_eq_true]
  simp only [Bool.and_eq_true, decide_eq_true_eq]
set_option maxHeartbeats 4000000 in
set_option maxRecDepth 100000 in
theorem plain_calls (s : ByteArray) (hs : s.size ≤ 1000000) (w : World) :
    Calls Tryz.prog 11 #[.string s] w fun e w' => e = .returned (.bool (plainB s)) ∧ w' = w := by
  go_enter Tryz.func11, Tryz.ntmps11
  go_wp2
  go_loopg [3] s.size (fun q v3 wr => ∃ k : Nat, v3 = .int .i64 k ∧ k + q = s.size ∧ (∀ (j : Nat) (hj : j < s.size), j < k → okB (s[j]'hj) = true) ∧ wr = w)
  case atStart => exact ⟨0, rfl, by omega, fun j _ hj => absurd hj (by omega), rfl⟩
  case round =>
    obtain ⟨k, rfl, hkq, hall, hw⟩ := hrel
    subst hw
    by_cases hlt : k < s.size
    · obtain ⟨q, rfl⟩ : ∃ q, gk = q + 1 := ⟨gk - 1, by omega⟩
      have hd : decide ((k : Int) < (s.size : Int)) = true := decide_eq_true (by omega)
      have HAll := Aside0.mk hall
      have HM := Aside0.mk (show (s[k]'hlt) ∈ s.data.toList from by
        rw [Array.mem_toList_iff]
        exact Array.getElem_mem (xs := s.data) hlt)
      have HOK := Aside0.mk (show okB (s[k]'hlt) = (decide (33 ≤ (s[k]'hlt).toNat) && decide ((s[k]'hlt).toNat ≤ 126)) from rfl)
      clear hall
      by_cases g1 : (s[k]'hlt).toNat ≤ 32
      · have e1 : decide (((s[k]'hlt).toNat : Int) ≤ 32) = true := decide_eq_true (by omega)
        go_wp2
        go_ret
        refine ⟨?_, rfl⟩
        have : plainB s = false := by
          unfold plainB
          rw [Bool.and_eq_false_iff]
          refine .inr ?_
          rw [List.all_eq_false]
          exact ⟨_, HM.out, by rw [HOK.out]; simp; omega⟩
        rw [this]; rfl
      · have e1 : decide (((s[k]'hlt).toNat : Int) ≤ 32) = false := decide_eq_false (by omega)
        by_cases g2 : 126 < (s[k]'hlt).toNat
        · have e2 : decide (126 < ((s[k]'hlt).toNat : Int)) = true := decide_eq_true (by omega)
          go_wp2
          go_ret
          refine ⟨?_, rfl⟩
          have : plainB s = false := by
            unfold plainB
            rw [Bool.and_eq_false_iff]
            refine .inr ?_
            rw [List.all_eq_false]
            exact ⟨_, HM.out, by rw [HOK.out]; simp; omega⟩
          rw [this]; rfl
        · have e2 : decide (126 < ((s[k]'hlt).toNat : Int)) = false := decide_eq_false (by omega)
          go_wp2
          go_roundg q
          case measure => omega
          case rel => exact ⟨k + 1, by go_num, by omega, fun j hj hjk => by
            by_cases he : j = k
            · subst he; rw [HOK.out]; simp; omega
            · exact HAll.out j hj (by omega), rfl⟩
    · have hd : decide ((k : Int) < (s.size : Int)) = false := decide_eq_false (by omega)
      obtain rfl : k = s.size := by omega
      have HAll := Aside0.mk hall
      clear hall
      go_wp2
      go_ret
      refine ⟨?_, rfl⟩
      have : plainB s = decide (0 < s.size) := by
        unfold plainB
        have h2 : s.data.toList.all okB = true := by
          rw [List.all_eq_true]
          intro b hb
          obtain ⟨j, hj, rfl⟩ := List.mem_iff_getElem.1 hb
          rw [Array.length_toList] at hj
          exact HAll.out j hj hj
        rw [h2, Bool.and_true]
      rw [this]; rfl
end Go.Proofs.YtldohjlcckbfaaaGreatDoor.Hand
namespace Go.Proofs.YtldohjlcckbfaaaGreatDoor.Hand
open Go.RowKit Go.Proofs.YtldohjlcckbfaaaGreatDoorW.PrintWords Go.Proofs.YtldohjlcckbfaaaGreatDoorW.PrintLast Go.Proofs.YtldohjlcckbfaaaGreatDoorW.PrintMore
set_option linter.unusedVariables false
set_option linter.unusedSimpArgs false
open Go.Proofs.YtldohjlcckbfaaaGreatDoor.Pre
open TopWords TopFar TopHooks Go.Proofs.YtldohjlcckbfaaaGreatDoor.MathP Go.Proofs.YtldohjlcckbfaaaGreatDoor.Goes
def tellF (x : ByteArray) : ByteArray := if (makeF x).2 = 0 then (if (makeF x).1.size ≤ 200 then (makeF x).1 else bangB 8) else bangB (makeF x).2
theorem makeF_range (x : ByteArray) : 0 ≤ (makeF x).2 ∧ (makeF x).2 ≤ 10 := by
  unfold makeF
  split
  · rcases says_err (L x) with h | h | h
    · simp only [h]; decide
    · simp only [h]; decide
    · simp only [h]; decide
  · show 0 ≤ wordE (L x) ∧ wordE (L x) ≤ 10
    unfold wordE digE
    repeat' split
    all_goals first | decide | simp_all
theorem line_small (m : Nat) (ws : List ByteArray) (h : ∀ x ∈ ws, x.size ≤ m) : (lineOf ws).size ≤ ws.length * (m + 1) := by
  have := join_len m (ws.map (·.data.toList)) (by
    intro x hx
    obtain ⟨y, hy, rfl⟩ := List.mem_map.1 hx
    have := h y hy
    rw [Array.length_toList]
    exact this)
  rw [List.length_map] at this
  show (Lib.join _ _).toArray.size ≤ _
  rw [List.size_toArray]
  exact this
set_option maxHeartbeats 2000000 in
set_option maxRecDepth 100000 in
theorem exec_tell (x : ByteArray) (hx : wordB x) (hl : x.size ≤ 100) (w : World) (hG : Glob w) (p : Nat) (S : Sh) (hs : ShopAt w p S) :
    Calls Tryz.prog 14 #[.pointer (some ⟨p, 0, none⟩), .string (lineOf [⟨#[116, 101, 108, 108]⟩, x])] w fun e w' => e = .returned (.string (tellF x)) ∧ Below w.heap.size w w' := by
  have hk : ∀ k, k < (ByteArray.mk #[119]).size → kindF ⟨#[119]⟩ 0 k = 119 := by
    intro k hk
    have h1 : (ByteArray.mk #[119]).size = 1 := rfl
    obtain rfl : k = 0 := by omega
    rfl
  have hps : ∀ y ∈ [x], wordB y := fun y hy => by rw [List.mem_singleton] at hy; subst hy; exact hx
  have hsz : (lineOf [⟨#[116, 101, 108, 108]⟩, x]).size ≤ 300 := by
    have := line_small 100 [⟨#[116, 101, 108, 108]⟩, x] (fun y hy => by
      rcases List.mem_cons.1 hy with rfl | hy
      · decide
      · rw [List.mem_singleton] at hy; subst hy; exact hl)
    have h2 : [(⟨#[116, 101, 108, 108]⟩ : ByteArray), x].length = 2 := rfl
    omega
  have eg := enters_of Tryz.func122 (by kernel_rfl) rfl
  obtain ⟨r0, r1⟩ := makeF_range x
  unfold tellF
  by_cases h1 : (makeF x).2 = 0
  · rw [if_pos h1]
    by_cases h2 : (makeF x).1.size ≤ 200
    · rw [if_pos h2]
      exact exec_words verb_tell hk [x] hps rfl (by decide) hsz w hG p S hs _ eg (fun W q g c v0 v1 v3 hb hr => tell_ok q g 1 c x v0 v1 v3 (by decide) W (hr 0 x rfl) (hG.below hb) h1 h2)
    · rw [if_neg h2]
      exact exec_words_no verb_tell hk [x] hps rfl (by decide) hsz w hG p S hs 8 (by decide) (by decide) eg (fun W q g c v0 v1 v3 hb hr => tell_long q g 1 c x v0 v1 v3 (by decide) W (hr 0 x rfl) (hG.below hb) h1 (by omega))
  · rw [if_neg h1]
    exact exec_words_no verb_tell hk [x] hps rfl (by decide) hsz w hG p S hs _ r0 (by omega) eg (fun W q g c v0 v1 v3 hb hr => tell_no q g 1 c x v0 v1 v3 (by decide) W (hr 0 x rfl) (hG.below hb) h1)
def roadsF (r e : Int) : ByteArray := if e = 0 then itoaB r else bangB e
set_option maxHeartbeats 2000000 in
set_option maxRecDepth 100000 in
theorem exec_roads (u l : ByteArray) (hu : wordB u) (hl : wordB l) (su : u.size ≤ 100) (sl : l.size ≤ 100) (r e : Int) (r0 : 0 ≤ r) (r1 : r ≤ 24) (e0 : 0 ≤ e) (e1 : e ≤ 10)
    (hR : ∀ W, Calls Tryz.prog 15 #[.string u, .string l] W fun e' W' => e' = .returned (.tuple #[.int .i64 r, .int .i64 e]) ∧ Below W.heap.size W W')
    (w : World) (hG : Glob w) (p : Nat) (S : Sh) (hs : ShopAt w p S) :
    Calls Tryz.prog 14 #[.pointer (some ⟨p, 0, none⟩), .string (lineOf [⟨#[114, 111, 97, 100, 115]⟩, u, l])] w fun e' w' => e' = .returned (.string (roadsF r e)) ∧ Below w.heap.size w w' := by
  have hk : ∀ k, k < (ByteArray.mk #[119, 119]).size → kindF ⟨#[119, 119]⟩ 0 k = 119 := by
    intro k hk
    have h1 : (ByteArray.mk #[119, 119]).size = 2 := rfl
    obtain rfl | rfl : k = 0 ∨ k = 1 := by omega
    · rfl
    · rfl
  have hps : ∀ y ∈ [u, l], wordB y := fun y hy => by
    rcases List.mem_cons.1 hy with rfl | hy
    · exact hu
    · rw [List.mem_singleton] at hy; subst hy; exact hl
  have hsz : (lineOf [⟨#[114, 111, 97, 100, 115]⟩, u, l]).size ≤ 303 := by
    have := line_small 100 [⟨#[114, 111, 97, 100, 115]⟩, u, l] (fun y hy => by
      rcases List.mem_cons.1 hy with rfl | hy
      · decide
      · rcases List.mem_cons.1 hy with rfl | hy
        · exact su
        · rw [List.mem_singleton] at hy; subst hy; exact sl)
    have h2 : [(⟨#[114, 111, 97, 100, 115]⟩ : ByteArray), u, l].length = 3 := rfl
    omega
  have hsz2 : (lineOf [⟨#[114, 111, 97, 100, 115]⟩, u, l]).size ≤ 300 := by
    rw [lineOf_cons _ _ (by simp), lineOf_two]
    simp only [ByteArray.size_append]
    have h1 : (⟨#[114, 111, 97, 100, 115]⟩ : ByteArray).size = 5 := rfl
    have h2 : (⟨#[32]⟩ : ByteArray).size = 1 := rfl
    omega
  have eg := enters_of Tryz.func124 (by kernel_rfl) rfl
  unfold roadsF
  by_cases h1 : e = 0
  · subst h1
    rw [if_pos rfl]
    exact exec_words verb_roads hk [u, l] hps rfl (by decide) hsz2 w hG p S hs _ eg (fun W q g c v0 v1 v3 hb hr => roads_ok q g c u l r r0 r1 v0 v1 v3 W hr (hG.below hb) hR)
  · rw [if_neg h1]
    exact exec_words_no verb_roads hk [u, l] hps rfl (by decide) hsz2 w hG p S hs e e0 (by omega) eg (fun W q g c v0 v1 v3 hb hr => roads_no q g c u l r e h1 v0 v1 v3 W hr (hG.below hb) hR)
def plaitF (n : Int) (l : List Int) : ByteArray := if hooksBad n l = true then bangB 2 else lineOf ((listOf n.toNat (hk n.toNat l (ident n.toNat) 0).1).map itoaB) ++ ⟨#[32, 47, 32]⟩ ++ itoaB ((hk n.toNat l (ident n.toNat) 0).2 : Int)
theorem hooks_reads (n : Int) (l : List Int) (hl : l.length ≤ 200) (hb : hooksBad n l = false) (W : World) (A : Option Addr) (c : Nat) (h : Kd.C (Kd.int .i64) W A l.length l) :
    Calls Tryz.prog 17 #[.int .i64 n, .slice A l.length c] W fun e W' => ∃ A' c2, e = .returned (.tuple #[.slice A' (listOf n.toNat (hk n.toNat l (ident n.toNat) 0).1).length c2, .int .i64 ((hk n.toNat l (ident n.toNat) 0).2 : Int), .int .i64 0]) ∧
      ReadsInt W' .i64 A' (listOf n.toNat (hk n.toNat l (ident n.toNat) 0).1).length (listOf n.toNat (hk n.toNat l (ident n.toNat) 0).1) ∧
      ((listOf n.toNat (hk n.toNat l (ident n.toNat) 0).1).length ≤ 20 ∧ (∀ x ∈ listOf n.toNat (hk n.toNat l (ident n.toNat) 0).1, 0 ≤ x ∧ x ≤ 20) ∧ 0 ≤ ((hk n.toNat l (ident n.toNat) 0).2 : Int) ∧ ((hk n.toNat l (ident n.toNat) 0).2 : Int) ≤ 1000000) ∧ Below W.heap.size W W' := by
  have hb0 := hb
  unfold hooksBad at hb0
  simp only [Bool.or_eq_false_iff, decide_eq_false_iff_not] at hb0
  obtain ⟨m, rfl⟩ : ∃ m : Nat, n = m := ⟨n.toNat, by omega⟩
  rw [Int.toNat_natCast]
  refine (hooks_good m l A c hl W h hb).mono ?_
  rintro e W' ⟨g, rfl, hg, hi, ha, hbl⟩
  have hlen := listOf_length m (hk m l (ident m) 0).1
  refine ⟨some ⟨g, 0, none⟩, 2 * m, by rw [hlen], ⟨rfl, by rw [hlen]; omega, fun _ => ⟨⟨g, 0, none⟩, rfl, fun j hj => ?_⟩⟩, ⟨by rw [hlen]; omega, ?_, by omega, by omega⟩, hbl⟩
  · rw [Addr.add_lit, Nat.zero_add]
    unfold intsO at hg
    rw [blk_cell hg]
    rw [List.getElem?_toArray, nums, List.getElem?_map, List.getElem?_eq_getElem hj]
    simp [List.getD_eq_getElem?_getD, List.getElem?_eq_getElem hj]
  · intro x hx
    unfold listOf at hx
    obtain ⟨p, hp, rfl⟩ := List.mem_map.1 hx
    have := hi.lt p (List.mem_range.1 hp)
    omega
set_option maxHeartbeats 2000000 in
set_option maxRecDepth 100000 in
theorem exec_plait (n : Int) (n0 : -1125899906842624 ≤ n) (n1 : n ≤ 1125899906842624) (l : List Int) (hl0 : 0 < l.length) (hl : l.length ≤ 10) (hb : ∀ x ∈ l, -1048576 ≤ x ∧ x ≤ 1048576) (w : World) (hG : Glob w) (p : Nat) (S : Sh) (hs : ShopAt w p S) :
    Calls Tryz.prog 14 #[.pointer (some ⟨p, 0, none⟩), .string (lineOf (⟨#[112, 108, 97, 105, 116]⟩ :: (n :: l).map itoaB))] w fun e' w' => e' = .returned (.string (plaitF n l)) ∧ Below w.heap.size w w' := by
  have hsz : (lineOf (⟨#[112, 108, 97, 105, 116]⟩ :: (n :: l).map itoaB)).size ≤ 300 := by
    have h3 := line_small 8 (l.map itoaB) (fun y hy => by
      obtain ⟨x, hx, rfl⟩ := List.mem_map.1 hy
      have := hb x hx
      have := itoa_len (n := x) (k := 7) (by decide) (by omega) (by omega)
      show (Lib.itoa x).toArray.size ≤ 8
      simpa using this)
    have h4 := itoaB_size n n0 n1
    rw [List.length_map] at h3
    have hne : l.map itoaB ≠ [] := by
      intro h
      have := congrArg List.length h
      rw [List.length_map, List.length_nil] at this
      omega
    rw [lineOf_cons _ _ (by simp), List.map_cons, lineOf_cons _ _ hne]
    simp only [ByteArray.size_append]
    have h1 : (⟨#[112, 108, 97, 105, 116]⟩ : ByteArray).size = 5 := rfl
    have h2 : (⟨#[32]⟩ : ByteArray).size = 1 := rfl
    omega
  have hN : ∀ x ∈ n :: l, -1125899906842624 ≤ x ∧ x ≤ 1125899906842624 := fun x hx => by
    rcases List.mem_cons.1 hx with rfl | hx
    · exact ⟨n0, n1⟩
    · have := hb x hx; omega
  have eg := enters_of Tryz.func123 (by kernel_rfl) rfl
  have h2 : 2 ≤ (n :: l).length := by rw [List.length_cons]; omega
  have h3 : (n :: l).length ≤ 21 := by rw [List.length_cons]; omega
  unfold plaitF
  by_cases hB : hooksBad n l = true
  · rw [if_pos hB]
    exact plait_exec_no (n :: l) h2 h3 hN hsz w hG p S hs 2 (by decide) (by decide) eg (fun W q g c v1 v2 v3 hbW hc hr => plait_no q g c n l hl0 (by omega) hc 2 (by decide) v1 v2 v3 W hr (hG.below hbW) (fun W A c' hC => hooks_bad n l A c' (by omega) W hC hB))
  · rw [if_neg hB]
    have hB' : hooksBad n l = false := by simpa using hB
    exact plait_exec_ok (n :: l) h2 h3 hN hsz w hG p S hs _ eg (fun W q g c v1 v2 v3 hbW hc hr => plait_ok q g c n l hl0 (by omega) hc _ _ v1 v2 v3 W hr (hG.below hbW) (fun W A c' hC => hooks_reads n l (by omega) hB' W A c' hC))
theorem pathF_len (n : Nat) (F : Nat → Int) : ∀ k a, (pathF n F k a).length ≤ k
  | 0, _ => by simp [pathF]
  | k + 1, a => by
    rw [pathF]
    split
    · split
      · rename_i j _
        have := pathF_len n F k j
        simp only [List.length_cons]
        omega
      · simp
    · simp
theorem pathF_mem (n : Nat) (F : Nat → Int) : ∀ k a, ∀ x ∈ pathF n F k a, 0 ≤ x ∧ x < ((n * n : Nat) : Int)
  | 0, _, x, h => by simp [pathF] at h
  | k + 1, a, x, h => by
    rw [pathF] at h
    split at h
    · split at h
      · rename_i j hf
        rcases List.mem_cons.1 h with rfl | h
        · have := nbN_lt (List.mem_of_find?_eq_some hf)
          omega
        · exact pathF_mem n F k j x h
      · simp at h
    · simp at h
theorem bridgeF_len (n : Nat) (S : List Int) (pl : Int) : (bridgeF n S pl).length ≤ n * n + 1 := by
  unfold bridgeF
  split
  · simp
  · simp only [List.length_cons]
    have := pathF_len n (farF n S pl) (n * n) (atN n pl (farF n S pl) (n * n)).toNat
    omega
theorem bridgeF_mem (n : Nat) (S : List Int) (pl : Int) : ∀ x ∈ bridgeF n S pl, 0 ≤ x ∧ x < ((n * n : Nat) : Int) := by
  intro x hx
  unfold bridgeF at hx
  split at hx
  · simp at hx
  · rename_i h
    rcases List.mem_cons.1 hx with rfl | hx
    · rcases atN_in n pl (farF n S pl) (n * n) with e | ⟨h1, h2, _⟩
      · omega
      · exact ⟨h1, h2⟩
    · exact pathF_mem n _ _ _ x hx
def hexF (n : Nat) (s : ByteArray) : ByteArray := if xo s = true then wstr n (bytesOf s) ++ ⟨#[32]⟩ ++ lineOf ((bridgeF n (bytesOf s) (winnerF n (bytesOf s))).map itoaB) else bangB 5
theorem winner_reads (n : Nat) (h1 : 1 ≤ n) (h2 : n ≤ 11) (s : ByteArray) (hs : s.size = n * n) (hx : xo s = true) (W : World) (hst : StepsAt W) :
    Calls Tryz.prog 19 #[.int .i64 n, .string s] W fun e W' => ∃ A' c2, e = .returned (.tuple #[.string (wstr n (bytesOf s)), .slice A' (bridgeF n (bytesOf s) (winnerF n (bytesOf s))).length c2, .int .i64 0]) ∧
      ReadsInt W' .i64 A' (bridgeF n (bytesOf s) (winnerF n (bytesOf s))).length (bridgeF n (bytesOf s) (winnerF n (bytesOf s))) ∧ Below W.heap.size W W' := by
  refine (winner_good n h1 h2 s hs hx W hst).mono ?_
  rintro e W' ⟨v, rfl, ho, hb⟩
  obtain ⟨A, c, rfl, hr⟩ := own_reads ho
  exact ⟨A, c, rfl, hr, hb⟩
set_option maxHeartbeats 2000000 in
set_option maxRecDepth 100000 in
theorem exec_hex (n : Nat) (h1 : 1 ≤ n) (h2 : n ≤ 11) (s : ByteArray) (hsz : s.size = n * n) (hw : wordB s) (w : World) (hG : Glob w) (p : Nat) (S : Sh) (hs : ShopAt w p S) :
    Calls Tryz.prog 14 #[.pointer (some ⟨p, 0, none⟩), .string (lineOf [⟨#[104, 101, 120]⟩, s])] w fun e' w' => e' = .returned (.string (hexF n s)) ∧ Below w.heap.size w w' := by
  have hnn : n * n ≤ 11 * 11 := Nat.mul_le_mul h2 h2
  have hk : ∀ k, k < (ByteArray.mk #[119]).size → kindF ⟨#[119]⟩ 0 k = 119 := by
    intro k hk
    have h1 : (ByteArray.mk #[119]).size = 1 := rfl
    obtain rfl : k = 0 := by omega
    rfl
  have hps : ∀ y ∈ [s], wordB y := fun y hy => by rw [List.mem_singleton] at hy; subst hy; exact hw
  have hl : (lineOf [⟨#[104, 101, 120]⟩, s]).size ≤ 300 := by
    rw [lineOf_two]
    simp only [ByteArray.size_append]
    have h1 : (⟨#[104, 101, 120]⟩ : ByteArray).size = 3 := rfl
    have h2 : (⟨#[32]⟩ : ByteArray).size = 1 := rfl
    omega
  have eg := enters_of Tryz.func125 (by kernel_rfl) rfl
  unfold hexF
  by_cases hx : xo s = true
  · rw [if_pos hx]
    have hD := bridgeF_len n (bytesOf s) (winnerF n (bytesOf s))
    have hM := bridgeF_mem n (bytesOf s) (winnerF n (bytesOf s))
    have hp := wstr_size n (bytesOf s)
    exact exec_words verb_hex hk [s] hps rfl (by decide) hl w hG p S hs _ eg (fun W q g c v0 v1 v3 hb hr => hex_ok q g c n h1 h2 s hsz _ (by omega) _ (by omega) (fun x hx => by have := hM x hx; omega) v0 v1 v3 W (hr 0 s rfl) (hG.below hb) (fun W hst => winner_reads n h1 h2 s hsz hx W hst))
  · rw [if_neg hx]
    have hx' : xo s = false := by simpa using hx
    exact exec_words_no verb_hex hk [s] hps rfl (by decide) hl w hG p S hs 5 (by decide) (by decide) eg (fun W q g c v0 v1 v3 hb hr => hex_no q g c n h1 h2 s hsz 5 (by decide) v0 v1 v3 W (hr 0 s rfl) (hG.below hb) (fun W hst => winner_bad n h1 h2 s hsz hx' W))
end Go.Proofs.YtldohjlcckbfaaaGreatDoor.Hand
