/- A part of the proof that pomadetop.TopTold returns true for every input: HandMb, HandF, HandG. No condition beyond those that each theorem states. -/
import Derived.Outline
import Derived.IntWalk
import Derived.Test.YtldohjlcckbfaaaGreatDoorK15
namespace Go.Proofs.YtldohjlcckbfaaaGreatDoor.Hand
open Go.RowKit Go.Proofs.YtldohjlcckbfaaaGreatDoorW.PrintWords Go.Proofs.YtldohjlcckbfaaaGreatDoorW.PrintLast Go.Proofs.YtldohjlcckbfaaaGreatDoorW.PrintMore
set_option linter.unusedVariables false
set_option linter.unusedSimpArgs false
open Go.Proofs.YtldohjlcckbfaaaGreatDoor.Pre TopHooks
def intsO (L : List Int) : Obj := .cells (nums .i64 L).toArray 3 (0, 0)
theorem made_ints (m : Nat) : Obj.cells (madeCells #[Value.int .i64 0] m) 3 = intsO (List.replicate m 0) := by
  unfold intsO
  congr 1
  unfold madeCells nums
  apply Array.ext'
  refine List.ext_getElem (by simp) fun i h1 h2 => ?_
  simp [Nat.mod_one]
theorem intAt {w : World} {b : Nat} {L : List Int} (h : w.heap[b]? = some (intsO L)) (m : Nat) (hm : m < L.length) : w.cell? ⟨b, m, none⟩ = some (.int .i64 L[m]) := by
  simp only [World.cell?, h, intsO, nums]
  simp [hm]
theorem intFree {w : World} {b : Nat} {L : List Int} (h : w.heap[b]? = some (intsO L)) (m : Nat) : w.frozen? ⟨b, m, none⟩ = false := by
  simp only [World.frozen?, h, intsO]; rfl
theorem intC {w : World} {b : Nat} {L : List Int} (h : w.heap[b]? = some (intsO L)) (hl : L.length ≤ 1000) : Kd.C (Kd.int .i64) w (some ⟨b, 0, none⟩) L.length L := by
  have hr : w.ownsRow b 3 1 (.slice (some ⟨b, 0, none⟩) L.length L.length) L.length (nums .i64 L) :=
    ⟨by rw [nums_length, Nat.mul_one], .inr ⟨b, L.length, (nums .i64 L).toArray, rfl, Nat.le_refl _, h, Nat.le_refl _, by unfold maxLen; omega, by simp [nums], by simp [nums, List.take_of_length_le]⟩⟩
  exact (Kd.R_reads' (own_R hr rfl)).2.2
theorem WEnv.out {W : World} {n : Nat} {D O : List Int} {Ad Ao : Option Addr} {cd co bo bd bn bs q bx : Nat} {L : List Int} {S : List Bool} {w : World} (h : WEnv W n D O Ad Ao cd co bo bd bn bs q bx (intsO L) S w) (m : Nat) (v : Int) :
    WEnv W n D O Ad Ao cd co bo bd bn bs q bx (intsO (L.set m v)) S (w.setCell ⟨bx, m, none⟩ (.int .i64 v)) where
  below := h.below.setCell (by exact h.xe.1) _
  lo := h.lo
  ne := h.ne
  nx := h.nx
  xe := h.xe
  o := by rw [Below.heap_setCell _ _ _ _ h.xe.2.1]; exact h.o
  d := by rw [Below.heap_setCell _ _ _ _ h.xe.2.2.1]; exact h.d
  nn := by rw [Below.heap_setCell _ _ _ _ h.xe.2.2.2.1]; exact h.nn
  s := by rw [Below.heap_setCell _ _ _ _ h.xe.2.2.2.2]; exact h.s
  r := by rw [Below.heap_setCell _ _ _ _ (Ne.symm h.nx)]; exact h.r
  x := by
    have := h.x
    unfold intsO at this
    rw [heap_setCell_same w bx m _ _ _ this]
    simp [intsO, nums, List.map_set]
theorem WEnv.drew {W : World} {n : Nat} {D O : List Int} {Ad Ao : Option Addr} {cd co bo bd bn bs q bx : Nat} {X : Obj} {S : List Bool} {w : World} (h : WEnv W n D O Ad Ao cd co bo bd bn bs q bx X S w) : WEnv W n D O Ad Ao cd co bo bd bn bs q bx X S w.drew :=
  ⟨below_drew h.below, h.lo, h.ne, h.d, h.o, h.nn, h.s, h.r, h.nx, h.xe, h.x⟩
theorem WEnv.drewN {W : World} {n : Nat} {D O : List Int} {Ad Ao : Option Addr} {cd co bo bd bn bs q bx : Nat} {X : Obj} {S : List Bool} {w : World} (h : WEnv W n D O Ad Ao cd co bo bd bn bs q bx X S w) (k : Nat) : WEnv W n D O Ad Ao cd co bo bd bn bs q bx X S (w.drewN k) :=
  ⟨pw_below_drewN h.below k, h.lo, h.ne, h.d, h.o, h.nn, h.s, h.r, h.nx, h.xe, h.x⟩
theorem env_start (n : Nat) (D O : List Int) (Ad Ao : Option Addr) (cd co : Nat) (w : World) (hD : D.length = 2 * n) (hO : O.length = 2 * n) :
    WEnv w n D O Ad Ao cd co (w.heap.size + 1) w.heap.size (w.heap.size + 1 + 1) (w.heap.size + 1 + 1 + 1 + 1 + 1) (w.heap.size + 1 + 1 + 1 + 1) (w.heap.size + 1 + 1 + 1) (intsO (List.replicate (2 * n) 0)) (List.replicate n false)
      ((((((w.alloc (Obj.cells #[Value.slice Ad (2 * n) cd] 72)).alloc (Obj.cells #[Value.slice Ao (2 * n) co] 72)).alloc (Obj.cells #[Value.int IntKind.i64 n] 3)).alloc
        (Obj.cells (madeCells #[Value.int IntKind.i64 0] (2 * n)) 3)).alloc (Obj.cells (madeCells #[Value.bool false] n) 4)).alloc (Obj.cells #[Value.slice (some ⟨w.heap.size + 1 + 1 + 1 + 1, 0, none⟩) n n] 92)) := by
  have h0 := heap_new w (Obj.cells #[Value.slice Ad (2 * n) cd] 72)
  obtain ⟨b, hb⟩ : ∃ b, w.heap.size = b := ⟨_, rfl⟩
  have B0 := below_alloc (Below.refl _ w) (Obj.cells #[Value.slice Ad (2 * n) cd] 72)
  have z0 := size_alloc w (Obj.cells #[Value.slice Ad (2 * n) cd] 72)
  obtain ⟨w0, e0⟩ : ∃ w0, w.alloc (Obj.cells #[Value.slice Ad (2 * n) cd] 72) = w0 := ⟨_, rfl⟩
  rw [e0] at h0 B0 z0 ⊢
  have h1 := heap_new w0 (Obj.cells #[Value.slice Ao (2 * n) co] 72)
  have h0 := heap_old w0 (Obj.cells #[Value.slice Ao (2 * n) co] 72) h0
  have B1 := below_alloc B0 (Obj.cells #[Value.slice Ao (2 * n) co] 72)
  have z1 := size_alloc w0 (Obj.cells #[Value.slice Ao (2 * n) co] 72)
  obtain ⟨w1, e1⟩ : ∃ w1, w0.alloc (Obj.cells #[Value.slice Ao (2 * n) co] 72) = w1 := ⟨_, rfl⟩
  rw [e1] at h1 h0 B1 z1 ⊢
  have h2 := heap_new w1 (Obj.cells #[Value.int IntKind.i64 n] 3)
  have h1 := heap_old w1 (Obj.cells #[Value.int IntKind.i64 n] 3) h1
  have h0 := heap_old w1 (Obj.cells #[Value.int IntKind.i64 n] 3) h0
  have B2 := below_alloc B1 (Obj.cells #[Value.int IntKind.i64 n] 3)
  have z2 := size_alloc w1 (Obj.cells #[Value.int IntKind.i64 n] 3)
  obtain ⟨w2, e2⟩ : ∃ w2, w1.alloc (Obj.cells #[Value.int IntKind.i64 n] 3) = w2 := ⟨_, rfl⟩
  rw [e2] at h2 h1 h0 B2 z2 ⊢
  rw [made_ints]
  have h3 := heap_new w2 (intsO (List.replicate (2 * n) 0))
  have h2 := heap_old w2 (intsO (List.replicate (2 * n) 0)) h2
  have h1 := heap_old w2 (intsO (List.replicate (2 * n) 0)) h1
  have h0 := heap_old w2 (intsO (List.replicate (2 * n) 0)) h0
  have B3 := below_alloc B2 (intsO (List.replicate (2 * n) 0))
  have z3 := size_alloc w2 (intsO (List.replicate (2 * n) 0))
  obtain ⟨w3, e3⟩ : ∃ w3, w2.alloc (intsO (List.replicate (2 * n) 0)) = w3 := ⟨_, rfl⟩
  rw [e3] at h3 h2 h1 h0 B3 z3 ⊢
  rw [made_bools]
  have h4 := heap_new w3 (Obj.cells (boolsA (List.replicate n false)) 4)
  have h3 := heap_old w3 (Obj.cells (boolsA (List.replicate n false)) 4) h3
  have h2 := heap_old w3 (Obj.cells (boolsA (List.replicate n false)) 4) h2
  have h1 := heap_old w3 (Obj.cells (boolsA (List.replicate n false)) 4) h1
  have h0 := heap_old w3 (Obj.cells (boolsA (List.replicate n false)) 4) h0
  have B4 := below_alloc B3 (Obj.cells (boolsA (List.replicate n false)) 4)
  have z4 := size_alloc w3 (Obj.cells (boolsA (List.replicate n false)) 4)
  obtain ⟨w4, e4⟩ : ∃ w4, w3.alloc (Obj.cells (boolsA (List.replicate n false)) 4) = w4 := ⟨_, rfl⟩
  rw [e4] at h4 h3 h2 h1 h0 B4 z4 ⊢
  have h5 := heap_new w4 (Obj.cells #[Value.slice (some ⟨w.heap.size + 1 + 1 + 1 + 1, 0, none⟩) n n] 92)
  have B5 := below_alloc B4 (Obj.cells #[Value.slice (some ⟨w.heap.size + 1 + 1 + 1 + 1, 0, none⟩) n n] 92)
  rw [z4, z3, z2, z1, z0] at h5
  rw [z3, z2, z1, z0] at h4
  rw [z2, z1, z0] at h3
  rw [z1, z0] at h2
  rw [z0] at h1
  exact ⟨B5, by omega, by omega, by rw [hD]; exact heap_old _ _ h0, by rw [hO]; exact heap_old _ _ h1, heap_old _ _ h2, h5, heap_old _ _ h4, by omega, by omega, heap_old _ _ h3⟩
set_option maxHeartbeats 4000000 in
set_option maxRecDepth 100000 in
theorem product_calls (n : Nat) (hn : n ≤ 100) (d o : Nat → Nat) (hd : Inv n d) (ho : Inv n o) (D O : List Int) (hD : D.length = 2 * n) (hO : O.length = 2 * n) (gD : ∀ i : Nat, i < 2 * n → rd D i = d i) (gO : ∀ i : Nat, i < 2 * n → rd O i = o i)
    (Ad Ao : Option Addr) (cd co : Nat) (w : World) (hCd : Kd.C (Kd.int .i64) w Ad D.length D) (hCo : Kd.C (Kd.int .i64) w Ao O.length O) :
    Calls Tryz.prog 38 #[.slice Ad (2 * n) cd, .slice Ao (2 * n) co] w fun e w' => e = .returned (.tuple #[.slice (some ⟨w.heap.size + 1 + 1 + 1, 0, none⟩) (2 * n) (2 * n), .int .i64 (loops n d o)]) ∧
      w'.heap[w.heap.size + 1 + 1 + 1]? = some (intsO (outL n d o n)) ∧ Below w.heap.size w w' := by
  have HD := Aside0.mk hd
  have HO := Aside0.mk ho
  have GD := Aside0.mk gD
  have GO := Aside0.mk gO
  have CD := Aside0.mk hCd
  have CO := Aside0.mk hCo
  have LD := Aside0.mk hD
  have LO := Aside0.mk hO
  have HE := Aside0.mk (env_start n D O Ad Ao cd co w hD hO)
  have HL := Aside0.mk (loops_some hd ho).1
  obtain ⟨R, hR⟩ : ∃ R, loops n d o = R := ⟨_, rfl⟩
  rw [hR] at HL ⊢
  clear hd ho gD gO hCd hCo hD hO hR
  have info3 : (Tryz.prog.info? 3).map (fun i => (i.zero, i.size, i.bytes)) = some (some (.int .i64 0), 1, 8) := by kernel_rfl
  have info4 : (Tryz.prog.info? 4).map (fun i => (i.zero, i.size, i.bytes)) = some (some (.bool false), 1, 1) := by kernel_rfl
  have hmk := fun W => run_make_row' (P := Tryz.prog) 72 3 (.int .i64 0) 8 Tryz.underlying72 info3 rfl .i64 .i64 (2 * n) (by omega) (by omega) W
  have hmk2 := fun W => run_make_row' (P := Tryz.prog) 92 4 (.bool false) 1 Tryz.underlying92 info4 rfl .i64 .i64 n (by omega) (by omega) W
  have e2 : ((2 * n : Nat) : Int) = 2 * (n : Int) := by omega
  rw [e2] at hmk
  have hmf : ∀ (fn : Fn) (first cap : Array Value) (w : World), (Instr.makeFunc fn first cap).run Tryz.prog w = .ok (.func fn first cap) w := fun _ _ _ _ => rfl
  go_enter Tryz.func38, Tryz.ntmps38
  go_wp2_with (go_at_call 73; refine (size_calls Ad n cd hn _).mono ?_; rintro e w1 ⟨rfl, rfl⟩)
  clear hmk hmk2 hmf info3 info4 e2
  obtain ⟨b, hb⟩ : ∃ b, w.heap.size = b := ⟨_, rfl⟩
  have HB := Aside0.mk hb
  rw [hb] at HE ⊢
  clear hb
  go_loopg [10, 24] n (fun g v10 v24 wr => ∃ (i : Nat), v24 = .int .i64 i ∧ i + g = n ∧ Aside0 (WEnv w n D O Ad Ao cd co (b + 1) b (b + 1 + 1) (b + 1 + 1 + 1 + 1 + 1) (b + 1 + 1 + 1 + 1) (b + 1 + 1 + 1) (intsO (outL n d o i)) (seenF n d o i) wr))
  case atStart => exact ⟨0, rfl, by omega, ⟨by rw [outL_zero]; exact HE.out⟩⟩
  case round =>
    clear HE
    obtain ⟨i, rfl, hig, HE⟩ := hrel
    by_cases hlt : i < n
    · obtain ⟨g, rfl⟩ : ∃ g, gk = g + 1 := ⟨gk - 1, by omega⟩
      have hdc : decide ((i : Int) < (n : Int)) = true := decide_eq_true (by omega)
      have HW1 := Aside0.mk (show way n d o (4 * n) (true, i) = some (TopHooks.out n d o i) by
        have := out_way HD.out HO.out (show i < 2 * n by omega)
        rwa [show TopHooks.start n i = (true, i) by simp [TopHooks.start, hlt]] at this)
      have HW2 := Aside0.mk (show way n d o (4 * n) (false, n + i) = some (TopHooks.out n d o (n + i)) by
        have := out_way HD.out HO.out (show n + i < 2 * n by omega)
        rwa [show TopHooks.start n (n + i) = (false, n + i) by simp [TopHooks.start]] at this)
      have HZ := Aside0.mk (outL_succ (d := d) (o := o) hlt)
      have HL := Aside0.mk (outL_length n d o i)
      have HS := Aside0.mk (seenF_length n d o i)
      obtain ⟨r1, hr1⟩ : ∃ r, TopHooks.out n d o i = r := ⟨_, rfl⟩
      obtain ⟨r2, hr2⟩ : ∃ r, TopHooks.out n d o (n + i) = r := ⟨_, rfl⟩
      rw [hr1] at HW1 HZ
      rw [hr2] at HW2 HZ
      clear hr1 hr2
      go_wp2_with (go_at_call 74; refine (way_calls w n d o hn HD.out HO.out D O LD.out LO.out GD.out GO.out Ad Ao cd co CD.out CO.out (seenF n d o i) (b + 1) b (b + 1 + 1) (b + 1 + 1 + 1 + 1 + 1) (b + 1 + 1 + 1 + 1) (b + 1 + 1 + 1) _ true i (by omega) (4 * n) r1 HW1.out HS.out _ HE.out).mono ?_; rintro e w1 ⟨rfl, he1⟩; have HE1 := Aside0.mk he1; clear he1; have q1 := intAt HE1.out.x i (by rw [HL.out]; omega); have q2 := intFree HE1.out.x i)
      clear q1 q2
      have HE2 := Aside0.mk (HE1.out.out i r1)
      have HL2 := Aside0.mk (show ((outL n d o i).set i (r1 : Int)).length = 2 * n by rw [List.length_set]; exact HL.out)
      have HS2 := Aside0.mk (show (put (seenF n d o i) (marks n d o (4 * n) (true, i))).length = n by rw [put_length]; exact HS.out)
      have q3 := cellAt HE2.out.nn
      have hw1 : IntKind.i64.wrap ((n : Int) + (i : Int)) = (n : Int) + (i : Int) := IntWalk.i64_in _ (by omega)
      have hw2 : ((n : Int) + (i : Int)).toNat = n + i := by omega
      have hw3 : (0 : Int) ≤ (n : Int) + (i : Int) := by omega
      have hw4 : (n : Int) + (i : Int) < 2 * (n : Int) := by omega
      clear HE1 HE
      go_region_held3 (fun w' => w'.cell? ⟨b + 1 + 1, 0, none⟩ = some (.int .i64 n)) (first | (exact cellAt HE3.out.nn) | go_keep) ((go_at_call 74; refine (way_calls w n d o hn HD.out HO.out D O LD.out LO.out GD.out GO.out Ad Ao cd co CD.out CO.out _ (b + 1) b (b + 1 + 1) (b + 1 + 1 + 1 + 1 + 1) (b + 1 + 1 + 1 + 1) (b + 1 + 1 + 1) _ false (n + i) (by omega) (4 * n) r2 HW2.out HS2.out _ HE2.out.drew).mono ?_; rintro e w3 ⟨rfl, he3⟩; have HE3 := Aside0.mk he3; clear he3; have q5 := intAt HE3.out.x (n + i) (by rw [HL2.out]; omega); have q6 := intFree HE3.out.x (n + i)))
      have HE4 := Aside0.mk (HE3.out.out (n + i) r2)
      rw [HZ.out] at HE4
      clear hw1 hw2 hw3 hw4 q3 q5 q6 HE3 HE2
      go_wp2
      go_roundg g
      case measure => omega
      case rel => exact ⟨i + 1, by go_num, by omega, HE4⟩
    · obtain rfl : gk = 0 := by omega
      obtain rfl : i = n := by omega
      have hdc : decide ((i : Int) < (i : Int)) = false := decide_eq_false (by omega)
      have HG := Aside0.mk (seenF_good HD.out HO.out)
      have q1 := cellAt HE.out.nn
      go_wp2
      clear q1
      obtain ⟨S0, hS0⟩ : ∃ S, seenF i d o i = S := ⟨_, rfl⟩
      rw [hS0] at HE HG HL
      clear hS0
      go_loopg [11, 45] i (fun g v11 v45 wr => ∃ (j l : Nat) (S : List Bool), v45 = .int .i64 j ∧ v11 = .int .i64 l ∧ j + g = i ∧ l ≤ j ∧ Aside0 (TopHooks.Good i d o S) ∧ Aside0 (laps i d o g j S l = some R) ∧ Aside0 (WEnv w i D O Ad Ao cd co (b + 1) b (b + 1 + 1) (b + 1 + 1 + 1 + 1 + 1) (b + 1 + 1 + 1 + 1) (b + 1 + 1 + 1) (intsO (outL i d o i)) S wr))
      case atStart => exact ⟨0, 0, S0, rfl, rfl, by omega, by omega, HG, HL, HE⟩
      case round =>
        clear HE HG HL
        obtain ⟨j, l, S, rfl, rfl, hjg, hlj, HG, HL, HE⟩ := hrel
        by_cases hlt : j < i
        · obtain ⟨g, rfl⟩ : ∃ g, gk = g + 1 := ⟨gk - 1, by omega⟩
          have hdc : decide ((j : Int) < (i : Int)) = true := decide_eq_true (by omega)
          have hL := HL.out
          rw [laps] at hL
          have hjS : j < S.length := by rw [HG.out.1]; exact hlt
          have s1 := rowAt HE.out.r j hjS
          have q1 := cellAt HE.out.s
          rcases val hjS with e | e
          · rw [if_pos e] at hL
            have HL2 := Aside0.mk hL
            have e' : S[j] = true := by rw [List.getElem?_eq_getElem hjS] at e; injection e
            rw [e'] at s1
            clear hL e e' HL
            go_wp2
            go_roundg g
            case measure => omega
            case rel => exact ⟨j + 1, l, S, by go_num, rfl, by omega, by omega, HG, HL2, HE⟩
          · rw [if_neg (by rw [e]; simp)] at hL
            obtain ⟨S', hS', hL⟩ := Option.bind_eq_some_iff.1 hL
            have HL2 := Aside0.mk hL
            have HP := Aside0.mk hS'
            have HM := Aside0.mk (show ¬ M i d o j from HG.out.2 j hlt e)
            have HG' := Aside0.mk (show TopHooks.Good i d o S' by
              obtain ⟨S2, h1, h2⟩ := lap_ends HD.out HO.out (i + 1) S j HG.out hlt HM.out (by have := free_le S; rw [HG.out.1] at this; omega)
              rw [hS'] at h1
              injection h1 with h1
              exact h1 ▸ h2)
            have e' : S[j] = false := by rw [List.getElem?_eq_getElem hjS] at e; injection e
            rw [e'] at s1
            have hlw : wrap64 ((l : Int) + 1) = (l : Int) + 1 := by unfold wrap64; omega
            clear hL e e' HL hS'
            go_wp2
            clear s1 q1 hlw
            go_loopg [13] (i + 1) (fun q v13 wr2 => ∃ (m : Nat) (S2 : List Bool), v13 = .int .i64 m ∧ m < i ∧ Aside0 (¬ M i d o m) ∧ Aside0 (TopHooks.Good i d o S2) ∧ Aside0 (lap i d o q S2 m = some S') ∧ Aside0 (WEnv w i D O Ad Ao cd co (b + 1) b (b + 1 + 1) (b + 1 + 1 + 1 + 1 + 1) (b + 1 + 1 + 1 + 1) (b + 1 + 1 + 1) (intsO (outL i d o i)) S2 wr2))
            case atStart => exact ⟨j, S, rfl, hlt, HM, HG, HP, HE⟩
            case round =>
              clear HE HG HP HM
              obtain ⟨m, S2, rfl, hmi, HM, HG, HP, HE⟩ := hrel
              have hmS : m < S2.length := by rw [HG.out.1]; exact hmi
              have s1 := rowAt HE.out.r m hmS
              have s2 := rowFree HE.out.r m
              have q1 := cellAt HE.out.s
              cases gk with
              | zero => cases HP.out
              | succ q =>
                have hP := HP.out
                rw [lap] at hP
                rcases val hmS with e | e
                · rw [if_pos e] at hP
                  obtain rfl := Option.some.inj hP
                  have e' : S2[m] = true := by rw [List.getElem?_eq_getElem hmS] at e; injection e
                  rw [e'] at s1
                  clear hP e e' HP
                  go_wp2
                  go_roundg g
                  case measure => omega
                  case rel => exact ⟨j + 1, l + 1, S2, by go_num, by go_num, by omega, by omega, HG, HL2, HE⟩
                · rw [if_neg (by rw [e]; simp)] at hP
                  have HP2 := Aside0.mk hP
                  have e' : S2[m] = false := by rw [List.getElem?_eq_getElem hmS] at e; injection e
                  rw [e'] at s1
                  obtain ⟨⟨h1, h2⟩, _⟩ := middle HD.out HO.out hmi HM.out
                  obtain ⟨_, h3, h4, h5⟩ := middle HD.out HO.out h1 h2
                  have HM2 := Aside0.mk h5
                  have LS := Aside0.mk HG.out.1
                  have hdl := HD.out.lt (o m + i) (by omega)
                  have HG2 := Aside0.mk ((HG.out.set m).set (o m))
                  have HE1 := Aside0.mk (HE.out.store m)
                  have HE2 := Aside0.mk (HE1.out.store (o m))
                  have hom := GO.out m (by omega)
                  have hdm := GD.out (o m + i) (by omega)
                  have hCo := Kd.C_below CO.out HE1.out.below
                  have hCd := Kd.C_below CD.out HE2.out.below
                  obtain ⟨a1, e1, x1⟩ := Kd.at_int hCo (m : Int) (by omega) (by rw [LO.out]; omega)
                  obtain ⟨a2, e2, x2⟩ := Kd.at_int hCd ((o m + i : Nat) : Int) (by omega) (by rw [LD.out]; omega)
                  subst e1 e2
                  rw [Int.toNat_natCast, hom] at x1
                  rw [Int.toNat_natCast, hdm] at x2
                  clear hom hdm hCo hCd h2 h5 e e' hP HP HM HG
                  have r1 := rowAt HE1.out.r (o m) (by rw [List.length_set, LS.out]; exact h1)
                  have r2 := rowFree HE1.out.r (o m)
                  have q2 := cellAt HE1.out.s
                  have q3 := cellAt HE1.out.o
                  have q4 := cellAt HE2.out.d
                  have q5 := cellAt HE2.out.nn
                  rw [LD.out] at q4
                  rw [LO.out] at q3
                  have hw1 : IntKind.i64.wrap ((o m : Int) + (i : Int)) = (o m : Int) + (i : Int) := IntWalk.i64_in _ (by omega)
                  have hw2 : ((o m : Int) + (i : Int)).toNat = o m + i := by omega
                  have hw3 : (0 : Int) ≤ (o m : Int) + (i : Int) := by omega
                  have hw4 : (o m : Int) + (i : Int) < 2 * (i : Int) := by omega
                  have hw5 : IntKind.i64.wrap ((d (o m + i) : Int) - (i : Int)) = (d (o m + i) : Int) - (i : Int) := IntWalk.i64_in _ (by omega)
                  go_wp2
                  go_quiet (fail)
                  have HE3 := Aside0.mk HE2.out.drewN
                  clear hw1 hw2 hw3 hw4 hw5 HE HE1 HE2 s1 s2 r1 r2 q1 q2 q3 q4 q5 x1 x2
                  have hz : ((d (o m + i) : Nat) : Int) - (i : Int) = ((d (o m + i) - i : Nat) : Int) := by omega
                  go_wp2
                  go_roundg q
                  case measure => omega
                  case rel => exact ⟨d (o m + i) - i, (S2.set m true).set (o m) true, by rw [← hz], h4, HM2, HG2, HP2, ⟨HE3.out _⟩⟩
        · obtain rfl : gk = 0 := by omega
          obtain rfl : j = i := by omega
          have hdc : decide ((j : Int) < (j : Int)) = false := decide_eq_false (by omega)
          have hL := HL.out
          rw [laps] at hL
          obtain rfl := Option.some.inj hL
          have HF := Aside0.mk HE.out.x
          have HBl := Aside0.mk HE.out.below
          clear hL HL HE
          go_wp2
          go_ret2
          rw [HB.out]
          exact ⟨rfl, HF.out, by rw [← HB.out]; exact HBl.out⟩
end Go.Proofs.YtldohjlcckbfaaaGreatDoor.Hand
namespace Go.Proofs.YtldohjlcckbfaaaGreatDoor.Hand
open Go.RowKit Go.Proofs.YtldohjlcckbfaaaGreatDoorW.PrintWords Go.Proofs.YtldohjlcckbfaaaGreatDoorW.PrintLast Go.Proofs.YtldohjlcckbfaaaGreatDoorW.PrintMore
set_option linter.unusedVariables false
set_option linter.unusedSimpArgs false
open Go.Proofs.YtldohjlcckbfaaaGreatDoor.Pre
def fstI (p : Int → Bool) (l : List Int) : Int := match l.findIdx? p with | some i => (i : Int) | none => -1
theorem fstI_some {p : Int → Bool} {l : List Int} {i : Nat} (hi : i < l.length) (h0 : ∀ j, j < i → p (rd l j) = false) (h1 : p (rd l i) = true) : fstI p l = i := by
  have hg : ∀ j (hj : j < l.length), rd l (j : Int) = l[j] := fun j hj => by unfold rd; rw [Int.toNat_natCast, List.getD_eq_getElem?_getD, List.getElem?_eq_getElem hj]; rfl
  have : l.findIdx? p = some i := by
    rw [List.findIdx?_eq_some_iff_getElem]
    exact ⟨hi, by rw [← hg i hi]; exact h1, fun j hj => by rw [← hg j (by omega), h0 j hj]; simp⟩
  unfold fstI
  rw [this]
theorem fstI_none {p : Int → Bool} {l : List Int} (h0 : ∀ j : Nat, j < l.length → p (rd l j) = false) : fstI p l = -1 := by
  have hg : ∀ j (hj : j < l.length), rd l (j : Int) = l[j] := fun j hj => by unfold rd; rw [Int.toNat_natCast, List.getD_eq_getElem?_getD, List.getElem?_eq_getElem hj]; rfl
  have : l.findIdx? p = none := by
    rw [List.findIdx?_eq_none_iff]
    intro x hx
    obtain ⟨j, hj, rfl⟩ := List.mem_iff_getElem.1 hx
    rw [← hg j hj]
    exact h0 j hj
  unfold fstI
  rw [this]
theorem fstI_any (p : Int → Bool) (l : List Int) : decide (0 ≤ fstI p l) = l.any p := by
  unfold fstI
  cases h : l.findIdx? p with
  | none =>
    rw [List.findIdx?_eq_none_iff] at h
    have : l.any p = false := List.any_eq_false.2 fun x hx => by rw [h x hx]; simp
    rw [this]
    rfl
  | some i =>
    rw [List.findIdx?_eq_some_iff_getElem] at h
    obtain ⟨hi, h1, _⟩ := h
    have : l.any p = true := List.any_eq_true.2 ⟨l[i], List.getElem_mem hi, h1⟩
    rw [this]
    exact decide_eq_true (Int.natCast_nonneg i)
set_option maxHeartbeats 4000000 in
set_option maxRecDepth 100000 in
theorem indexFuncI (g : Nat) (cap : Array Value) (eg : ∀ args w, (callFunc g args).run Tryz.prog w = .ok (.enter g args) w) (l : List Int) (A : Option Addr) (c : Nat) (hl : l.length ≤ 100000) (J : World → Prop) (hJ : ∀ w, J w → Kd.C (Kd.int .i64) w A l.length l) (p : Int → Bool)
    (hp : ∀ x ∈ l, ∀ w, J w → Calls Tryz.prog g (#[.int .i64 x] ++ cap) w fun e w' => e = .returned (.bool (p x)) ∧ J w') (w : World) (h : J w) :
    Calls Tryz.prog 91 #[.slice A l.length c, .func (.func g) #[] cap] w fun e w' => e = .returned (.int .i64 (fstI p l)) ∧ J w' := by
  have HJ := Aside0.mk hJ
  have HP := Aside0.mk hp
  have H := Aside0.mk h
  clear hJ hp h
  go_enter Tryz.func91, Tryz.ntmps91
  go_wp2
  go_loopg [8] l.length (fun q v8 wr => ∃ (i : Nat), v8 = .int .i64 i ∧ i + q = l.length ∧ Aside0 (∀ j : Nat, j < i → p (rd l j) = false) ∧ Aside0 (J wr))
  case atStart => exact ⟨0, rfl, by omega, ⟨fun j hj => by omega⟩, H⟩
  case round =>
    clear H
    obtain ⟨i, rfl, hiq, HN, H⟩ := hrel
    by_cases hlt : i < l.length
    · obtain ⟨q, rfl⟩ : ∃ q, gk = q + 1 := ⟨gk - 1, by omega⟩
      have hd : decide ((i : Int) < (l.length : Int)) = true := decide_eq_true (by omega)
      obtain ⟨ad, e1, x1⟩ := Kd.at_int (HJ.out _ H.out) (i : Int) (by omega) (by omega)
      subst e1
      rw [Int.toNat_natCast] at x1
      have HM := Aside0.mk (show rd l (i : Int) ∈ l by
        unfold rd
        rw [Int.toNat_natCast, List.getD_eq_getElem?_getD, List.getElem?_eq_getElem hlt]
        exact List.getElem_mem hlt)
      by_cases hpx : p (rd l (i : Int)) = true
      · have HF := Aside0.mk (fstI_some hlt HN.out hpx)
        go_wp2_with ((with_reducible refine (HP.out _ HM.out _ H.out).mono ?_); rintro e w1 ⟨rfl, h1⟩; have H1 := Aside0.mk h1; clear h1)
        go_ret
        exact ⟨by first | rfl | (rw [HF.out]; rfl), H1.out⟩
      · have hpx : p (rd l (i : Int)) = false := Bool.eq_false_iff.2 hpx
        have HN2 := Aside0.mk (show ∀ j : Nat, j < i + 1 → p (rd l j) = false by
          intro j hj
          by_cases e : j = i
          · subst e; exact hpx
          · exact HN.out j (by omega))
        go_wp2_with ((with_reducible refine (HP.out _ HM.out _ H.out).mono ?_); rintro e w1 ⟨rfl, h1⟩; have H1 := Aside0.mk h1; clear h1)
        go_roundg q
        case measure => omega
        case rel => exact ⟨i + 1, by go_num, by omega, HN2, H1⟩
    · obtain rfl : gk = 0 := by omega
      obtain rfl : i = l.length := by omega
      have hd : decide ((l.length : Int) < (l.length : Int)) = false := decide_eq_false (by omega)
      have HF := Aside0.mk (fstI_none HN.out)
      go_wp2
      go_ret
      exact ⟨by first | rfl | (rw [HF.out]; rfl), H.out⟩
set_option maxHeartbeats 4000000 in
set_option maxRecDepth 100000 in
theorem containsFuncI (g : Nat) (cap : Array Value) (eg : ∀ args w, (callFunc g args).run Tryz.prog w = .ok (.enter g args) w) (l : List Int) (A : Option Addr) (c : Nat) (hl : l.length ≤ 100000) (J : World → Prop) (hJ : ∀ w, J w → Kd.C (Kd.int .i64) w A l.length l) (p : Int → Bool)
    (hp : ∀ x ∈ l, ∀ w, J w → Calls Tryz.prog g (#[.int .i64 x] ++ cap) w fun e w' => e = .returned (.bool (p x)) ∧ J w') (w : World) (h : J w) :
    Calls Tryz.prog 48 #[.slice A l.length c, .func (.func g) #[] cap] w fun e w' => e = .returned (.bool (l.any p)) ∧ J w' := by
  have HI := Aside0.mk (indexFuncI g cap eg l A c hl J hJ p hp w h)
  have HA := Aside0.mk (fstI_any p l)
  clear hJ hp h
  go_enter Tryz.func48, Tryz.ntmps48
  go_wp2_with (go_at_call 91; refine HI.out.mono ?_; rintro e w1 ⟨rfl, h1⟩; have H1 := Aside0.mk h1; clear h1)
  go_ret
  exact ⟨by first | rfl | (rw [HA.out]; rfl), H1.out⟩
end Go.Proofs.YtldohjlcckbfaaaGreatDoor.Hand
namespace Go.Proofs.YtldohjlcckbfaaaGreatDoor.Hand
open Go.RowKit Go.Proofs.YtldohjlcckbfaaaGreatDoorW.PrintWords Go.Proofs.YtldohjlcckbfaaaGreatDoorW.PrintLast Go.Proofs.YtldohjlcckbfaaaGreatDoorW.PrintMore
set_option linter.unusedVariables false
set_option linter.unusedSimpArgs false
open Go.Proofs.YtldohjlcckbfaaaGreatDoor.Pre TopHooks
theorem intSet {w : World} {b : Nat} {L : List Int} (h : w.heap[b]? = some (intsO L)) (m : Nat) (v : Int) : (w.setCell ⟨b, m, none⟩ (.int .i64 v)).heap[b]? = some (intsO (L.set m v)) := by
  unfold intsO at h
  rw [heap_setCell_same w b m _ _ _ h]
  simp [intsO, nums, List.map_set]
set_option maxHeartbeats 4000000 in
set_option maxRecDepth 100000 in
theorem identity_calls (n : Nat) (hn : n ≤ 100) (w : World) :
    Calls Tryz.prog 37 #[.int .i64 n] w fun e w' => e = .returned (.slice (some ⟨w.heap.size, 0, none⟩) (2 * n) (2 * n)) ∧ w'.heap[w.heap.size]? = some (intsO (listOf n (ident n))) ∧ Below w.heap.size w w' := by
  have info3 : (Tryz.prog.info? 3).map (fun i => (i.zero, i.size, i.bytes)) = some (some (.int .i64 0), 1, 8) := by kernel_rfl
  have hmk := fun W => run_make_row' (P := Tryz.prog) 72 3 (.int .i64 0) 8 Tryz.underlying72 info3 rfl .i64 .i64 (2 * n) (by omega) (by omega) W
  have e2 : ((2 * n : Nat) : Int) = 2 * (n : Int) := by omega
  rw [e2] at hmk
  have H0 := Aside0.mk (show (w.alloc (Obj.cells (madeCells #[Value.int .i64 0] (2 * n)) 3)).heap[w.heap.size]? = some (intsO (identL n 0)) by rw [made_ints, identL_zero]; exact heap_new _ _)
  have HB := Aside0.mk (below_alloc (Below.refl _ w) (Obj.cells (madeCells #[Value.int .i64 0] (2 * n)) 3))
  go_enter Tryz.func37, Tryz.ntmps37
  go_wp2
  clear hmk info3 e2
  obtain ⟨b, hb⟩ : ∃ b, w.heap.size = b := ⟨_, rfl⟩
  have HZ := Aside0.mk hb
  rw [hb] at H0 HB ⊢
  clear hb
  go_loopg [9] n (fun q v9 wr => ∃ (i : Nat), v9 = .int .i64 i ∧ i + q = n ∧ Aside0 (wr.heap[b]? = some (intsO (identL n i))) ∧ Aside0 (Below b w wr))
  case atStart => exact ⟨0, rfl, by omega, H0, HB⟩
  case round =>
    clear H0 HB
    obtain ⟨i, rfl, hiq, H0, HB⟩ := hrel
    by_cases hlt : i < n
    · obtain ⟨q, rfl⟩ : ∃ q, gk = q + 1 := ⟨gk - 1, by omega⟩
      have hd : decide ((i : Int) < (n : Int)) = true := decide_eq_true (by omega)
      have HL := Aside0.mk (identL_length n i)
      have s1 := intAt H0.out i (by rw [HL.out]; omega)
      have s2 := intFree H0.out i
      have H1 := Aside0.mk (intSet H0.out i ((n : Int) + i))
      have s3 := intAt H1.out (n + i) (by rw [List.length_set, HL.out]; omega)
      have s4 := intFree H1.out (n + i)
      have H2 := Aside0.mk (intSet H1.out (n + i) (i : Int))
      rw [identL_succ hlt] at H2
      have HB2 := Aside0.mk ((HB.out.setCell (p := ⟨b, i, none⟩) (Nat.le_refl _) (.int .i64 ((n : Int) + i))).setCell (p := ⟨b, n + i, none⟩) (Nat.le_refl _) (.int .i64 i))
      have hw2 : ((n : Int) + (i : Int)).toNat = n + i := by omega
      clear H0 H1 HB
      go_wp2
      go_roundg q
      case measure => omega
      case rel => exact ⟨i + 1, by go_num, by omega, H2, HB2⟩
    · obtain rfl : gk = 0 := by omega
      obtain rfl : i = n := by omega
      have hd : decide ((i : Int) < (i : Int)) = false := decide_eq_false (by omega)
      go_wp2
      go_ret
      rw [HZ.out]
      exact ⟨rfl, by rw [← identL_all]; exact H0.out, HB.out⟩
set_option maxHeartbeats 4000000 in
set_option maxRecDepth 100000 in
theorem hook_calls (n i : Nat) (hn : n ≤ 100) (hi : i + 2 ≤ n) (w : World) :
    Calls Tryz.prog 39 #[.int .i64 n, .int .i64 i] w fun e w' => e = .returned (.slice (some ⟨w.heap.size, 0, none⟩) (2 * n) (2 * n)) ∧ w'.heap[w.heap.size]? = some (intsO (listOf n (hook n i))) ∧ Below w.heap.size w w' := by
  go_enter Tryz.func39, Tryz.ntmps39
  go_wp2_with fail
  refine (identity_calls n hn _).mono ?_
  rintro e w1 ⟨rfl, h0, hb0⟩
  obtain ⟨b, hb⟩ : ∃ b, w.heap.size = b := ⟨_, rfl⟩
  have HZ := Aside0.mk hb
  rw [hb] at h0 hb0 ⊢
  have H0 := Aside0.mk h0
  have HB := Aside0.mk hb0
  have HL := Aside0.mk (listOf_length n (ident n))
  clear hb h0 hb0
  have s1 := intAt H0.out i (by rw [HL.out]; omega)
  have s2 := intFree H0.out i
  have H1 := Aside0.mk (intSet H0.out i ((i : Int) + 1))
  have s3 := intAt H1.out (i + 1) (by rw [List.length_set, HL.out]; omega)
  have s4 := intFree H1.out (i + 1)
  have H2 := Aside0.mk (intSet H1.out (i + 1) (i : Int))
  have s5 := intAt H2.out (n + i) (by rw [List.length_set, List.length_set, HL.out]; omega)
  have s6 := intFree H2.out (n + i)
  have H3 := Aside0.mk (intSet H2.out (n + i) ((n : Int) + i + 1))
  have s7 := intAt H3.out (n + i + 1) (by rw [List.length_set, List.length_set, List.length_set, HL.out]; omega)
  have s8 := intFree H3.out (n + i + 1)
  have H4 := Aside0.mk (intSet H3.out (n + i + 1) ((n : Int) + i))
  rw [hookL hi] at H4
  have HB4 := Aside0.mk ((((HB.out.setCell (p := ⟨b, i, none⟩) (Nat.le_refl _) (.int .i64 ((i : Int) + 1))).setCell (p := ⟨b, i + 1, none⟩) (Nat.le_refl _) (.int .i64 i)).setCell (p := ⟨b, n + i, none⟩) (Nat.le_refl _) (.int .i64 ((n : Int) + i + 1))).setCell (p := ⟨b, n + i + 1, none⟩) (Nat.le_refl _) (.int .i64 ((n : Int) + i)))
  have hw1 : ((i : Int) + 1).toNat = i + 1 := by omega
  have hw2 : ((n : Int) + (i : Int)).toNat = n + i := by omega
  have hw3 : ((n : Int) + (i : Int) + 1).toNat = n + i + 1 := by omega
  clear H0 H1 H2 H3 HB
  go_wp2
  go_ret
  rw [HZ.out]
  exact ⟨rfl, H4.out, HB4.out⟩
def badI (n x : Int) : Bool := decide (x < 0) || decide (n - 2 < x)
set_option maxHeartbeats 4000000 in
set_option maxRecDepth 100000 in
theorem bad_calls (n x : Int) (h1 : 1 ≤ n) (h2 : n ≤ 10) (b : Nat) (w : World) (hb : w.cell? ⟨b, 0, none⟩ = some (.int .i64 n)) :
    Calls Tryz.prog 72 #[.int .i64 x, .pointer (some ⟨b, 0, none⟩)] w fun e w' => e = .returned (.bool (badI n x)) ∧ w' = w := by
  have HX := Aside0.mk (show badI n x = (decide (x < 0) || decide (n - 2 < x)) from rfl)
  obtain ⟨r, hr⟩ : ∃ r, badI n x = r := ⟨_, rfl⟩
  rw [hr] at HX ⊢
  clear hr
  by_cases hx : x < 0
  · have c1 : decide (x < 0) = true := decide_eq_true hx
    go_enter Tryz.func72, Tryz.ntmps72
    go_wp2
    go_ret
    exact ⟨by rw [HX.out, c1]; rfl, rfl⟩
  · have c1 : decide (x < 0) = false := decide_eq_false hx
    go_enter Tryz.func72, Tryz.ntmps72
    go_wp2
    go_ret
    exact ⟨by rw [HX.out, c1]; rfl, rfl⟩
end Go.Proofs.YtldohjlcckbfaaaGreatDoor.Hand
