/- A part of the proof that pomadetop.TopTold returns true for every input: HandM, HandMc, XLoops. No condition beyond those that each theorem states. -/
import Derived.Test.YtldohjlcckbfaaaGreatDoorK04
import Derived.Test.YtldohjlcckbfaaaGreatDoorK14
namespace Go.Proofs.YtldohjlcckbfaaaGreatDoor.Hand
open Go.RowKit Go.Proofs.YtldohjlcckbfaaaGreatDoorW.PrintWords Go.Proofs.YtldohjlcckbfaaaGreatDoorW.PrintLast Go.Proofs.YtldohjlcckbfaaaGreatDoorW.PrintMore
set_option linter.unusedVariables false
set_option linter.unusedSimpArgs false
open Go.Proofs.YtldohjlcckbfaaaGreatDoor.Pre TopHooks
def boolsA (S : List Bool) : Array Value := (S.map Value.bool).toArray
structure WEnv (W : World) (n : Nat) (D O : List Int) (Ad Ao : Option Addr) (cd co bo bd bn bs q bx : Nat) (X : Obj) (S : List Bool) (w : World) : Prop where
  below : Below W.heap.size W w
  lo : W.heap.size ≤ q
  ne : bo ≠ q ∧ bd ≠ q ∧ bn ≠ q ∧ bs ≠ q
  d : w.heap[bd]? = some (.cells #[.slice Ad D.length cd] 72 (0, 0))
  o : w.heap[bo]? = some (.cells #[.slice Ao O.length co] 72 (0, 0))
  nn : w.heap[bn]? = some (.cells #[.int .i64 n] 3 (0, 0))
  s : w.heap[bs]? = some (.cells #[.slice (some ⟨q, 0, none⟩) n n] 92 (0, 0))
  r : w.heap[q]? = some (.cells (boolsA S) 4 (0, 0))
  nx : bx ≠ q
  xe : W.heap.size ≤ bx ∧ bo ≠ bx ∧ bd ≠ bx ∧ bn ≠ bx ∧ bs ≠ bx
  x : w.heap[bx]? = some X
theorem cellAt {w : World} {b : Nat} {v : Value} {T : Nat} (h : w.heap[b]? = some (.cells #[v] T (0, 0))) : w.cell? ⟨b, 0, none⟩ = some v := by
  simp only [World.cell?, h]; rfl
theorem rowAt {w : World} {q : Nat} {S : List Bool} (h : w.heap[q]? = some (.cells (boolsA S) 4 (0, 0))) (m : Nat) (hm : m < S.length) : w.cell? ⟨q, m, none⟩ = some (.bool S[m]) := by
  simp only [World.cell?, h, boolsA]
  simp [hm]
theorem rowFree {w : World} {q : Nat} {S : List Bool} (h : w.heap[q]? = some (.cells (boolsA S) 4 (0, 0))) (m : Nat) : w.frozen? ⟨q, m, none⟩ = false := by
  simp only [World.frozen?, h]; rfl
theorem WEnv.store {W : World} {n : Nat} {D O : List Int} {Ad Ao : Option Addr} {cd co bo bd bn bs q bx : Nat} {X : Obj} {S : List Bool} {w : World} (h : WEnv W n D O Ad Ao cd co bo bd bn bs q bx X S w) (m : Nat) :
    WEnv W n D O Ad Ao cd co bo bd bn bs q bx X (S.set m true) (w.setCell ⟨q, m, none⟩ (.bool true)) where
  below := h.below.setCell (by exact h.lo) _
  lo := h.lo
  ne := h.ne
  nx := h.nx
  xe := h.xe
  x := by rw [Below.heap_setCell _ _ _ _ h.nx]; exact h.x
  o := by rw [Below.heap_setCell _ _ _ _ h.ne.1]; exact h.o
  d := by rw [Below.heap_setCell _ _ _ _ h.ne.2.1]; exact h.d
  nn := by rw [Below.heap_setCell _ _ _ _ h.ne.2.2.1]; exact h.nn
  s := by rw [Below.heap_setCell _ _ _ _ h.ne.2.2.2]; exact h.s
  r := by
    rw [heap_setCell_same w q m _ _ _ h.r]
    simp [boolsA, List.map_set]
set_option maxHeartbeats 4000000 in
set_option maxRecDepth 100000 in
theorem way_calls (W : World) (n : Nat) (d o : Nat → Nat) (hn : n ≤ 100) (hd : Inv n d) (ho : Inv n o) (D O : List Int) (hD : D.length = 2 * n) (hO : O.length = 2 * n) (gD : ∀ i : Nat, i < 2 * n → rd D i = d i) (gO : ∀ i : Nat, i < 2 * n → rd O i = o i)
    (Ad Ao : Option Addr) (cd co : Nat) (hCd : Kd.C (Kd.int .i64) W Ad D.length D) (hCo : Kd.C (Kd.int .i64) W Ao O.length O)
    (S : List Bool) (bo bd bn bs q bx : Nat) (X : Obj) (u : Bool) (p : Nat) (hp : p < 2 * n) (k r : Nat) (hw : way n d o k (u, p) = some r) (hS : S.length = n) (w : World) (h : WEnv W n D O Ad Ao cd co bo bd bn bs q bx X S w) :
    Calls Tryz.prog 74 #[.bool u, .int .i64 p, .pointer (some ⟨bo, 0, none⟩), .pointer (some ⟨bd, 0, none⟩), .pointer (some ⟨bn, 0, none⟩), .pointer (some ⟨bs, 0, none⟩)] w fun e w' => e = .returned (.int .i64 r) ∧ WEnv W n D O Ad Ao cd co bo bd bn bs q bx X (put S (marks n d o k (u, p))) w' := by
  have HD := Aside0.mk hd
  have HO := Aside0.mk ho
  have GD := Aside0.mk gD
  have GO := Aside0.mk gO
  have CD := Aside0.mk hCd
  have CO := Aside0.mk hCo
  have HW := Aside0.mk hw
  have HE := Aside0.mk h
  obtain ⟨R, hR⟩ : ∃ R, put S (marks n d o k (u, p)) = R := ⟨_, rfl⟩
  have HR := Aside0.mk hR
  rw [hR]
  clear hd ho gD gO hCd hCo hw h hR
  go_enter Tryz.func74, Tryz.ntmps74
  go_wp2
  go_loopg [0, 1] k (fun g v0 v1 wr => ∃ (u : Bool) (p : Nat) (S : List Bool), v0 = .bool u ∧ v1 = .int .i64 p ∧ p < 2 * n ∧ S.length = n ∧ Aside0 (way n d o g (u, p) = some r) ∧ Aside0 (put S (marks n d o g (u, p)) = R) ∧ Aside0 (WEnv W n D O Ad Ao cd co bo bd bn bs q bx X S wr))
  case atStart => exact ⟨u, p, S, rfl, rfl, hp, hS, HW, HR, HE⟩
  case round =>
    clear HW HE HR
    obtain ⟨u, p, S, rfl, rfl, hp, hS, HW, HR, HE⟩ := hrel
    cases gk with
    | zero => cases HW.out
    | succ g =>
      have hCd := Kd.C_below CD.out HE.out.below
      have hCo := Kd.C_below CO.out HE.out.below
      obtain ⟨a1, e1, x1⟩ := Kd.at_int hCd (p : Int) (by omega) (by omega)
      subst e1
      obtain ⟨a2, e2, x2⟩ := Kd.at_int hCo (p : Int) (by omega) (by omega)
      subst e2
      rw [Int.toNat_natCast, GD.out p hp] at x1
      rw [Int.toNat_natCast, GO.out p hp] at x2
      have q1 := cellAt HE.out.d
      have q2 := cellAt HE.out.o
      have q3 := cellAt HE.out.nn
      have q4 := cellAt HE.out.s
      clear hCd hCo
      cases u with
      | true =>
        by_cases c : d p < n
        · have c1 : decide (((d p : Nat) : Int) < (n : Int)) = true := decide_eq_true (by omega)
          go_wp2
          go_ret
          have := HW.out
          unfold way at this
          rw [step_true, if_pos c] at this
          have this := Option.some.inj this
          have h2 := HR.out
          unfold marks at h2
          rw [step_true, if_pos c] at h2
          refine ⟨?_, (show S = R from h2) ▸ HE.out⟩
          subst this
          rfl
        · have c1 : decide (((d p : Nat) : Int) < (n : Int)) = false := decide_eq_false (by omega)
          have hl := HD.out.lt p hp
          obtain ⟨m, hm⟩ : ∃ m, d p - n = m := ⟨_, rfl⟩
          have hmod : ((d p : Nat) : Int).tmod (n : Int) = (m : Int) := by
            rw [Int.tmod_eq_emod_of_nonneg (by omega)]
            have e : ((d p : Nat) : Int) = (m : Int) + n := by omega
            rw [e, Int.add_emod_right]
            exact Int.emod_eq_of_lt (by omega) (by omega)
          have hmn : m < n := by omega
          have s1 := rowAt HE.out.r m (by omega)
          have s2 := rowFree HE.out.r m
          have n0 : ((n : Int) == 0) = false := by simp; omega
          have HE2 := Aside0.mk (HE.out.store m)
          have hw2 := HW.out
          unfold way at hw2
          rw [step_true, if_neg c, hm] at hw2
          have HW2 := Aside0.mk (show way n d o g (false, m) = some r from hw2)
          have hr2 := HR.out
          unfold marks at hr2
          rw [step_true, if_neg c, hm] at hr2
          have HR2 := Aside0.mk (show put (S.set m true) (marks n d o g (false, m)) = R from hr2)
          clear hw2 hr2 HW HR HE
          go_wp2
          go_roundg g
          case measure => omega
          case rel => exact ⟨false, m, S.set m true, rfl, rfl, by omega, by rw [List.length_set]; exact hS, HW2, HR2, HE2⟩
      | false =>
        by_cases c : o p < n
        · have c1 : decide (((o p : Nat) : Int) < (n : Int)) = true := decide_eq_true (by omega)
          obtain ⟨m, hm⟩ : ∃ m, o p = m := ⟨_, rfl⟩
          rw [hm] at c c1 x2
          have hmod : (m : Int).tmod (n : Int) = (m : Int) := by
            rw [Int.tmod_eq_emod_of_nonneg (by omega)]
            exact Int.emod_eq_of_lt (by omega) (by omega)
          have s1 := rowAt HE.out.r m (by omega)
          have s2 := rowFree HE.out.r m
          have n0 : ((n : Int) == 0) = false := by simp; omega
          have HE2 := Aside0.mk (HE.out.store m)
          have q5 := cellAt HE2.out.nn
          have hw2 := HW.out
          unfold way at hw2
          rw [step_false, hm, if_pos c] at hw2
          have HW2 := Aside0.mk (show way n d o g (true, m + n) = some r from hw2)
          have hr2 := HR.out
          unfold marks at hr2
          rw [step_false, hm, if_pos c] at hr2
          have HR2 := Aside0.mk (show put (S.set (m + n - n) true) (marks n d o g (true, m + n)) = R from hr2)
          have e0 : m + n - n = m := by omega
          rw [e0] at HR2
          clear hw2 hr2 HW HR HE
          go_wp2
          go_roundg g
          case measure => omega
          case rel => exact ⟨true, m + n, S.set m true, rfl, by go_num, by omega, by rw [List.length_set]; exact hS, HW2, HR2, HE2⟩
        · have c1 : decide (((o p : Nat) : Int) < (n : Int)) = false := decide_eq_false (by omega)
          go_wp2
          go_ret
          have := HW.out
          unfold way at this
          rw [step_false, if_neg c] at this
          have this := Option.some.inj this
          have h2 := HR.out
          unfold marks at h2
          rw [step_false, if_neg c] at h2
          refine ⟨?_, (show S = R from h2) ▸ HE.out⟩
          subst this
          rfl
end Go.Proofs.YtldohjlcckbfaaaGreatDoor.Hand
namespace Go.Proofs.YtldohjlcckbfaaaGreatDoor.Hand
open Go.RowKit Go.Proofs.YtldohjlcckbfaaaGreatDoorW.PrintWords Go.Proofs.YtldohjlcckbfaaaGreatDoorW.PrintLast Go.Proofs.YtldohjlcckbfaaaGreatDoorW.PrintMore
set_option linter.unusedVariables false
set_option linter.unusedSimpArgs false
open Go.Proofs.YtldohjlcckbfaaaGreatDoor.Pre TopHooks
set_option maxHeartbeats 4000000 in
set_option maxRecDepth 100000 in
theorem size_calls (A : Option Addr) (n c : Nat) (hn : n ≤ 100) (w : World) : Calls Tryz.prog 73 #[.slice A (2 * n) c] w fun e w' => e = .returned (.int .i64 n) ∧ w' = w := by
  have h2 : ((2 * n : Nat) : Int).tdiv 2 = (n : Int) := by
    rw [Int.tdiv_eq_ediv_of_nonneg (by omega)]
    omega
  go_enter Tryz.func73, Tryz.ntmps73
  go_wp2
  go_ret
  exact ⟨rfl, rfl⟩
theorem made_bools (n : Nat) : madeCells #[Value.bool false] n = boolsA (List.replicate n false) := by
  unfold madeCells boolsA
  apply Array.ext'
  refine List.ext_getElem (by simp) fun i h1 h2 => ?_
  simp [Nat.mod_one]
theorem heap_new (w : World) (x : Obj) : (w.alloc x).heap[w.heap.size]? = some x := by
  show (w.heap.push x)[w.heap.size]? = some x
  simp
theorem heap_old (w : World) (x : Obj) {b : Nat} {y : Obj} (h : w.heap[b]? = some y) : (w.alloc x).heap[b]? = some y := by
  have := (Array.getElem?_eq_some_iff.1 h).1
  show (w.heap.push x)[b]? = some y
  rw [Array.getElem?_push, if_neg (by omega)]
  exact h
theorem size_alloc (w : World) (x : Obj) : (w.alloc x).heap.size = w.heap.size + 1 := by
  show (w.heap.push x).size = _
  simp
end Go.Proofs.YtldohjlcckbfaaaGreatDoor.Hand
namespace TopHooks
def free (S : List Bool) : Nat := S.countP (fun b => !b)
theorem free_set {S : List Bool} {m : Nat} (h : S[m]? = some false) : free (S.set m true) + 1 = free S := by
  induction S generalizing m with
  | nil => simp at h
  | cons b S ih =>
    cases m with
    | zero =>
      simp at h
      subst h
      simp [free]
    | succ m =>
      have := ih (m := m) (by simpa using h)
      simp only [free, List.set_cons_succ, List.countP_cons] at this ⊢
      omega
theorem free_set_le (S : List Bool) (m : Nat) : free (S.set m true) ≤ free S := by
  induction S generalizing m with
  | nil => simp
  | cons b S ih =>
    cases m with
    | zero => cases b <;> simp [free]
    | succ m =>
      have := ih m
      simp only [free, List.set_cons_succ, List.countP_cons] at this ⊢
      omega
theorem free_le (S : List Bool) : free S ≤ S.length := List.countP_le_length
def lap (n : Nat) (d o : Nat → Nat) : Nat → List Bool → Nat → Option (List Bool)
  | 0, _, _ => none
  | g + 1, S, m => if S[m]? = some true then some S else lap n d o g ((S.set m true).set (o m) true) (d (o m + n) - n)
def Good (n : Nat) (d o : Nat → Nat) (S : List Bool) : Prop := S.length = n ∧ ∀ m, m < n → S[m]? = some false → ¬ M n d o m
theorem Good.set {n : Nat} {d o : Nat → Nat} {S : List Bool} (h : Good n d o S) (m : Nat) : Good n d o (S.set m true) := by
  refine ⟨by rw [List.length_set]; exact h.1, fun x hx e => h.2 x hx ?_⟩
  rw [List.getElem?_set] at e
  split at e
  · split at e
    · cases e
    · cases e
  · exact e
theorem val {S : List Bool} {m : Nat} (h : m < S.length) : S[m]? = some true ∨ S[m]? = some false := by
  rw [List.getElem?_eq_getElem h]
  cases S[m] <;> simp
theorem lap_ends {n : Nat} {d o : Nat → Nat} (hd : Inv n d) (ho : Inv n o) : ∀ (g : Nat) (S : List Bool) (m : Nat), Good n d o S → m < n → ¬ M n d o m → free S < g → ∃ S', lap n d o g S m = some S' ∧ Good n d o S'
  | 0, S, m, _, _, _, h => by omega
  | g + 1, S, m, hS, hm, hM, h => by
    unfold lap
    rcases val (by rw [hS.1]; exact hm : m < S.length) with e | e
    · rw [if_pos e]
      exact ⟨S, rfl, hS⟩
    · rw [if_neg (by rw [e]; simp)]
      obtain ⟨⟨h1, h2⟩, _⟩ := middle hd ho hm hM
      obtain ⟨_, h3, h4, h5⟩ := middle hd ho h1 h2
      have f1 := free_set e
      have f2 := free_set_le (S.set m true) (o m)
      exact lap_ends hd ho g _ _ ((hS.set m).set (o m)) h4 h5 (by omega)
def laps (n : Nat) (d o : Nat → Nat) : Nat → Nat → List Bool → Nat → Option Nat
  | 0, _, _, l => some l
  | k + 1, i, S, l => if S[i]? = some true then laps n d o k (i + 1) S l else (lap n d o (n + 1) S i).bind fun S' => laps n d o k (i + 1) S' (l + 1)
theorem laps_ends {n : Nat} {d o : Nat → Nat} (hd : Inv n d) (ho : Inv n o) : ∀ (k i : Nat) (S : List Bool) (l : Nat), Good n d o S → i + k = n → ∃ r, laps n d o k i S l = some r ∧ r ≤ l + k
  | 0, _, _, l, _, _ => ⟨l, rfl, Nat.le_refl _⟩
  | k + 1, i, S, l, hS, hi => by
    unfold laps
    have hin : i < n := by omega
    rcases val (by rw [hS.1]; exact hin : i < S.length) with e | e
    · rw [if_pos e]
      obtain ⟨r, h1, h2⟩ := laps_ends hd ho k (i + 1) S l hS (by omega)
      exact ⟨r, h1, by omega⟩
    · rw [if_neg (by rw [e]; simp)]
      obtain ⟨S', h1, h2⟩ := lap_ends hd ho (n + 1) S i hS hin (hS.2 i hin e) (by have := free_le S; rw [hS.1] at this; omega)
      obtain ⟨r, h3, h4⟩ := laps_ends hd ho k (i + 1) S' (l + 1) h2 (by omega)
      exact ⟨r, by rw [h1]; exact h3, by omega⟩
def seenF (n : Nat) (d o : Nat → Nat) : Nat → List Bool
  | 0 => List.replicate n false
  | i + 1 => put (put (seenF n d o i) (marks n d o (4 * n) (true, i))) (marks n d o (4 * n) (false, n + i))
theorem seenF_length (n : Nat) (d o : Nat → Nat) : ∀ i, (seenF n d o i).length = n
  | 0 => by simp [seenF]
  | i + 1 => by rw [seenF, put_length, put_length]; exact seenF_length n d o i
theorem seenF_mem {n : Nat} {d o : Nat → Nat} : ∀ (i p : Nat), (p < i ∨ (n ≤ p ∧ p < n + i)) → i ≤ n → ∀ m ∈ marks n d o (4 * n) (start n p), m < n → (seenF n d o i)[m]? = some true
  | 0, p, hp, hi, m, hm, hmn => by omega
  | i + 1, p, hp, hi, m, hm, hmn => by
    rw [seenF]
    have hl := seenF_length n d o i
    by_cases c : p < i ∨ (n ≤ p ∧ p < n + i)
    · exact put_keep _ _ (put_keep _ _ (seenF_mem i p c (by omega) m hm hmn))
    · have : p = i ∨ p = n + i := by omega
      rcases this with rfl | rfl
      · refine put_keep _ _ (put_mem _ _ ?_ (by rw [hl]; exact hmn))
        have e : start n p = (true, p) := by simp [start]; omega
        rw [← e]
        exact hm
      · refine put_mem _ _ ?_ (by rw [put_length, hl]; exact hmn)
        have e : start n (n + i) = (false, n + i) := by simp [start]
        rw [← e]
        exact hm
theorem seenF_good {n : Nat} {d o : Nat → Nat} (hd : Inv n d) (ho : Inv n o) : Good n d o (seenF n d o n) :=
  ⟨seenF_length n d o n, fun m hm h => unseen hd ho (fun p hp m hm hmn => seenF_mem n p (by omega) (Nat.le_refl _) m hm hmn) hm h⟩
def loops (n : Nat) (d o : Nat → Nat) : Nat := (laps n d o n 0 (seenF n d o n) 0).getD 0
theorem loops_some {n : Nat} {d o : Nat → Nat} (hd : Inv n d) (ho : Inv n o) : laps n d o n 0 (seenF n d o n) 0 = some (loops n d o) ∧ loops n d o ≤ n := by
  obtain ⟨r, h1, h2⟩ := laps_ends hd ho n 0 _ 0 (seenF_good hd ho) (by omega)
  unfold loops
  rw [h1]
  exact ⟨rfl, by simpa using h2⟩
def outL (n : Nat) (d o : Nat → Nat) (i : Nat) : List Int := (List.range (2 * n)).map fun p => if p < i ∨ (n ≤ p ∧ p < n + i) then (out n d o p : Int) else 0
theorem outL_length (n : Nat) (d o : Nat → Nat) (i : Nat) : (outL n d o i).length = 2 * n := by simp [outL]
theorem outL_zero (n : Nat) (d o : Nat → Nat) : outL n d o 0 = List.replicate (2 * n) 0 := by
  unfold outL
  apply List.ext_getElem (by simp)
  intro p h1 h2
  simp
  omega
theorem outL_succ {n : Nat} {d o : Nat → Nat} {i : Nat} (hi : i < n) : ((outL n d o i).set i (out n d o i : Int)).set (n + i) (out n d o (n + i) : Int) = outL n d o (i + 1) := by
  unfold outL
  apply List.ext_getElem (by simp)
  intro p h1 h2
  rw [List.getElem_set, List.getElem_set]
  by_cases a : n + i = p
  · subst a
    simp
  · rw [if_neg a]
    by_cases b : i = p
    · subst b
      simp
    · rw [if_neg b]
      simp only [List.getElem_map, List.getElem_range]
      by_cases c : p < i ∨ (n ≤ p ∧ p < n + i)
      · rw [if_pos c, if_pos (by omega)]
      · rw [if_neg c, if_neg (by omega)]
def listOf (n : Nat) (d : Nat → Nat) : List Int := (List.range (2 * n)).map fun p => (d p : Int)
theorem listOf_length (n : Nat) (d : Nat → Nat) : (listOf n d).length = 2 * n := by simp [listOf]
theorem listOf_get {n : Nat} {d : Nat → Nat} {p : Nat} (hp : p < 2 * n) : (listOf n d).getD p 0 = (d p : Int) := by
  rw [List.getD_eq_getElem?_getD]
  unfold listOf
  rw [List.getElem?_map, List.getElem?_range hp]
  rfl
theorem outL_all (n : Nat) (d o : Nat → Nat) : outL n d o n = listOf n (out n d o) := by
  unfold outL listOf
  refine List.map_congr_left fun p hp => ?_
  have := List.mem_range.1 hp
  rw [if_pos (by omega)]
def identL (n i : Nat) : List Int := (List.range (2 * n)).map fun p => if p < i ∨ (n ≤ p ∧ p < n + i) then (ident n p : Int) else 0
theorem identL_length (n i : Nat) : (identL n i).length = 2 * n := by simp [identL]
theorem identL_zero (n : Nat) : identL n 0 = List.replicate (2 * n) 0 := by
  unfold identL
  apply List.ext_getElem (by simp)
  intro p h1 h2
  simp
  omega
theorem identL_succ {n i : Nat} (hi : i < n) : ((identL n i).set i ((n : Int) + i)).set (n + i) (i : Int) = identL n (i + 1) := by
  unfold identL
  apply List.ext_getElem (by simp)
  intro p h1 h2
  rw [List.getElem_set, List.getElem_set]
  by_cases a : n + i = p
  · subst a
    simp [ident]
    rw [if_neg (by omega)]
  · rw [if_neg a]
    by_cases b : i = p
    · subst b
      simp [ident, hi]
      omega
    · rw [if_neg b]
      simp only [List.getElem_map, List.getElem_range]
      by_cases c : p < i ∨ (n ≤ p ∧ p < n + i)
      · rw [if_pos c, if_pos (by omega)]
      · rw [if_neg c, if_neg (by omega)]
theorem identL_all (n : Nat) : identL n n = listOf n (ident n) := by
  unfold identL listOf
  refine List.map_congr_left fun p hp => ?_
  have := List.mem_range.1 hp
  rw [if_pos (by omega)]
theorem hookL {n i : Nat} (h : i + 2 ≤ n) : ((((listOf n (ident n)).set i ((i : Int) + 1)).set (i + 1) (i : Int)).set (n + i) ((n : Int) + i + 1)).set (n + i + 1) ((n : Int) + i) = listOf n (hook n i) := by
  unfold listOf
  apply List.ext_getElem (by simp)
  intro p h1 h2
  rw [List.getElem_set, List.getElem_set, List.getElem_set, List.getElem_set]
  simp only [List.getElem_map, List.getElem_range]
  unfold hook
  by_cases a : n + i + 1 = p
  · rw [if_pos a, if_neg (by omega), if_neg (by omega), if_neg (by omega), if_pos (by omega)]
    omega
  · rw [if_neg a]
    by_cases b : n + i = p
    · rw [if_pos b, if_neg (by omega), if_neg (by omega), if_pos (by omega)]
      omega
    · rw [if_neg b]
      by_cases c : i + 1 = p
      · rw [if_pos c, if_neg (by omega), if_pos (by omega)]
      · rw [if_neg c]
        by_cases e : i = p
        · rw [if_pos e, if_pos (by omega)]
          omega
        · rw [if_neg e, if_neg (by omega), if_neg (by omega), if_neg (by omega), if_neg (by omega)]
def hk (n : Nat) : List Int → (Nat → Nat) → Nat → (Nat → Nat) × Nat
  | [], d, a => (d, a)
  | x :: t, d, a => hk n t (out n d (hook n x.toNat)) (a + loops n d (hook n x.toNat))
end TopHooks
