/- A part of the proof that pomadetop.TopTold returns true for every input: HandTs. No condition beyond those that each theorem states. -/
import Derived.Test.YtldohjlcckbfaaaGreatDoorK29
namespace Go.Proofs.YtldohjlcckbfaaaGreatDoor.Hand
open Go.RowKit Go.Proofs.YtldohjlcckbfaaaGreatDoorW.PrintWords Go.Proofs.YtldohjlcckbfaaaGreatDoorW.PrintLast Go.Proofs.YtldohjlcckbfaaaGreatDoorW.PrintMore
set_option linter.unusedVariables false
set_option linter.unusedSimpArgs false
open Go.Proofs.YtldohjlcckbfaaaGreatDoor.Pre
open TopWords TopFar TopHooks
structure TCase (w : World) (word upper lower : ByteArray) (n size : Int) (hooks : List Int) (A : Option Addr) (c : Nat) (board : ByteArray) (r e : Int) : Prop where
  glob : Glob w
  hooks : Kd.C (Kd.int .i64) w A hooks.length hooks
  roads : ∀ W, Calls Tryz.prog 15 #[.string upper, .string lower] W fun e' W' => e' = .returned (.tuple #[.int .i64 r, .int .i64 e]) ∧ Below W.heap.size W W'
  r0 : 0 ≤ r
  r1 : r ≤ 24
  e0 : 0 ≤ e
  e1 : e ≤ 10
  size0 : 0 ≤ size
  size1 : size ≤ 255
  opened : ∀ W, Below w.heap.size w W → Calls Tryz.prog 9 #[] W fun e' W' => e' = .returned (.bool true) ∧ Below W.heap.size W W'
structure TIn (word upper lower : ByteArray) (n : Int) (hooks : List Int) (board : ByteArray) : Prop where
  word : word.size ≤ 100
  upper : upper.size ≤ 100
  lower : lower.size ≤ 100
  h1 : 1 ≤ hooks.length
  h2 : hooks.length ≤ 10
  board : board.size ≤ 121
  n1 : n ≤ 1125899906842624
  n0 : -1125899906842624 ≤ n
  hk : ∀ x ∈ hooks, -1048576 ≤ x ∧ x ≤ 1048576
theorem kk_facts (m kk : Nat) (h : kk = m + 1) (hm : m ≤ 10) : IntKind.i64.wrap (1 + (m : Int)) = (kk : Int) ∧ IntKind.i64.wrap ((kk : Int) * (kk : Int)) = (kk : Int) * (kk : Int) ∧ wrap64 ((kk : Int) * (kk : Int)) = (kk : Int) * (kk : Int) ∧ wrap64 (m : Int) = (m : Int) ∧ wrap64 (1 + (m : Int)) = (kk : Int) := by
  have hk2 : kk * kk ≤ 11 * 11 := Nat.mul_le_mul (by omega) (by omega)
  have hci : ((kk : Int) * (kk : Int)) = ((kk * kk : Nat) : Int) := by rw [Int.natCast_mul]
  refine ⟨?_, ?_, ?_, ?_, ?_⟩
  · rw [IntWalk.i64_in _ (by omega)]; omega
  · rw [hci]; exact IntWalk.i64_in _ (by omega)
  · rw [hci]; unfold wrap64; omega
  · unfold wrap64; omega
  · unfold wrap64; omega
theorem tell_line (x : ByteArray) : lineOf [⟨#[116, 101, 108, 108]⟩, x] = ⟨#[116, 101, 108, 108, 32]⟩ ++ x := by
  rw [lineOf_two]; rfl
theorem hex_line (x : ByteArray) : lineOf [⟨#[104, 101, 120]⟩, x] = ⟨#[104, 101, 120, 32]⟩ ++ x := by
  rw [lineOf_two]; rfl
theorem roads_line (u l : ByteArray) : lineOf [⟨#[114, 111, 97, 100, 115]⟩, u, l] = ⟨#[114, 111, 97, 100, 115, 32]⟩ ++ u ++ ⟨#[32]⟩ ++ l := by
  rw [lineOf_cons _ _ (by simp), lineOf_two]
  apply WideShapes.bytes_inj
  simp
theorem plait_line (n : Int) (l : List Int) (h : 0 < l.length) : lineOf (⟨#[112, 108, 97, 105, 116]⟩ :: (n :: l).map itoaB) = ⟨#[112, 108, 97, 105, 116, 32]⟩ ++ itoaB n ++ ⟨#[32]⟩ ++ lineOf (l.map itoaB) := by
  have hne : l.map itoaB ≠ [] := by
    intro h2
    have := congrArg List.length h2
    rw [List.length_map, List.length_nil] at this
    omega
  rw [lineOf_cons _ _ (by simp), List.map_cons, lineOf_cons _ _ hne]
  apply WideShapes.bytes_inj
  simp
set_option maxHeartbeats 16000000 in
set_option maxRecDepth 100000 in
theorem told_calls (word upper lower : ByteArray) (n size : Int) (hooks : List Int) (A : Option Addr) (c : Nat) (board : ByteArray) (r e : Int) (w : World) (h : TCase w word upper lower n size hooks A c board r e) :
    Calls Tryz.prog 4 #[.agg #[.string word, .string upper, .string lower, .int .i64 n, .int .u8 size], .slice A hooks.length c, .string board] w fun e' w' => e' = .returned (.bool true) ∧ Below w.heap.size w w' := by
  have H := Aside0.mk h
  have HA := heap_new w (Obj.cells #[.string word, .string upper, .string lower, .int .i64 n, .int .u8 size] 31)
  have hb0 := below_alloc (Below.refl _ w) (Obj.cells #[.string word, .string upper, .string lower, .int .i64 n, .int .u8 size] 31)
  clear h
  go_enter Tryz.func4, Tryz.ntmps4
  go_wp2
  obtain ⟨b, hb⟩ : ∃ b, w.heap.size = b := ⟨_, rfl⟩
  have HZ := Aside0.mk hb
  obtain ⟨w1, e1⟩ : ∃ w1, w.alloc (Obj.cells #[.string word, .string upper, .string lower, .int .i64 n, .int .u8 size] 31) = w1 := ⟨_, rfl⟩
  rw [e1] at HA hb0 ⊢
  rw [hb] at HA ⊢
  clear hb e1
  have HB1 := Aside0.mk hb0
  have x0 : w1.cell? ⟨b, 0, none⟩ = some (.string word) := by rw [blk_cell HA]; rfl
  have x1 : w1.cell? ⟨b, 1, none⟩ = some (.string upper) := by rw [blk_cell HA]; rfl
  have x2 : w1.cell? ⟨b, 2, none⟩ = some (.string lower) := by rw [blk_cell HA]; rfl
  have x3 : w1.cell? ⟨b, 3, none⟩ = some (.int .i64 n) := by rw [blk_cell HA]; rfl
  have x4 : w1.cell? ⟨b, 4, none⟩ = some (.int .u8 size) := by rw [blk_cell HA]; rfl
  clear HA hb0
  go_quiet (fail)
  have HB2 := Aside0.mk (pw_below_drewN HB1.out nq)
  obtain ⟨w2, hw2⟩ : ∃ W, w1.drewN nq = W := ⟨_, rfl⟩
  rw [hw2] at HB2 ⊢
  clear hw2 x0 x1 x2 x3 x4
  by_cases g0 : word.size ≤ 100
  case neg =>
    have d0 : decide (100 < (word.size : Int)) = true := decide_eq_true (by omega)
    go_wp2_with (go_at_call 9; refine (H.out.opened _ HB2.out).mono ?_; rintro e' w9 ⟨rfl, hb9⟩; have HB9 := Aside0.mk (HB2.out.trans (hb9.mono HB2.out.size)); clear hb9)
    go_ret
    exact ⟨rfl, HB9.out⟩
  have d0 : decide (100 < (word.size : Int)) = false := decide_eq_false (by omega)
  by_cases g1 : upper.size ≤ 100
  case neg =>
    have d1 : decide (100 < (upper.size : Int)) = true := decide_eq_true (by omega)
    go_wp2_with (go_at_call 9; refine (H.out.opened _ HB2.out).mono ?_; rintro e' w9 ⟨rfl, hb9⟩; have HB9 := Aside0.mk (HB2.out.trans (hb9.mono HB2.out.size)); clear hb9)
    go_ret
    exact ⟨rfl, HB9.out⟩
  have d1 : decide (100 < (upper.size : Int)) = false := decide_eq_false (by omega)
  by_cases g2 : lower.size ≤ 100
  case neg =>
    have d2 : decide (100 < (lower.size : Int)) = true := decide_eq_true (by omega)
    go_wp2_with (go_at_call 9; refine (H.out.opened _ HB2.out).mono ?_; rintro e' w9 ⟨rfl, hb9⟩; have HB9 := Aside0.mk (HB2.out.trans (hb9.mono HB2.out.size)); clear hb9)
    go_ret
    exact ⟨rfl, HB9.out⟩
  have d2 : decide (100 < (lower.size : Int)) = false := decide_eq_false (by omega)
  by_cases g3 : 1 ≤ hooks.length
  case neg =>
    have d3 : decide ((hooks.length : Int) < 1) = true := decide_eq_true (by omega)
    have d3' : decide (hooks.length < 1) = true := decide_eq_true (by omega)
    go_wp2_with (go_at_call 9; refine (H.out.opened _ HB2.out).mono ?_; rintro e' w9 ⟨rfl, hb9⟩; have HB9 := Aside0.mk (HB2.out.trans (hb9.mono HB2.out.size)); clear hb9)
    go_ret
    exact ⟨rfl, HB9.out⟩
  have d3 : decide ((hooks.length : Int) < 1) = false := decide_eq_false (by omega)
  by_cases g4 : hooks.length ≤ 10
  case neg =>
    have d4 : decide (10 < (hooks.length : Int)) = true := decide_eq_true (by omega)
    go_wp2_with (go_at_call 9; refine (H.out.opened _ HB2.out).mono ?_; rintro e' w9 ⟨rfl, hb9⟩; have HB9 := Aside0.mk (HB2.out.trans (hb9.mono HB2.out.size)); clear hb9)
    go_ret
    exact ⟨rfl, HB9.out⟩
  have d4 : decide (10 < (hooks.length : Int)) = false := decide_eq_false (by omega)
  by_cases g5 : board.size ≤ 121
  case neg =>
    have d5 : decide (121 < (board.size : Int)) = true := decide_eq_true (by omega)
    go_wp2_with (go_at_call 9; refine (H.out.opened _ HB2.out).mono ?_; rintro e' w9 ⟨rfl, hb9⟩; have HB9 := Aside0.mk (HB2.out.trans (hb9.mono HB2.out.size)); clear hb9)
    go_ret
    exact ⟨rfl, HB9.out⟩
  have d5 : decide (121 < (board.size : Int)) = false := decide_eq_false (by omega)
  by_cases g6 : n ≤ 1125899906842624
  case neg =>
    have d6 : decide (1125899906842624 < n) = true := decide_eq_true (by omega)
    go_wp2_with (go_at_call 9; refine (H.out.opened _ HB2.out).mono ?_; rintro e' w9 ⟨rfl, hb9⟩; have HB9 := Aside0.mk (HB2.out.trans (hb9.mono HB2.out.size)); clear hb9)
    go_ret
    exact ⟨rfl, HB9.out⟩
  have d6 : decide (1125899906842624 < n) = false := decide_eq_false (by omega)
  by_cases g7 : -1125899906842624 ≤ n
  case neg =>
    have d7 : decide (n < -1125899906842624) = true := decide_eq_true (by omega)
    go_wp2_with (go_at_call 9; refine (H.out.opened _ HB2.out).mono ?_; rintro e' w9 ⟨rfl, hb9⟩; have HB9 := Aside0.mk (HB2.out.trans (hb9.mono HB2.out.size)); clear hb9)
    go_ret
    exact ⟨rfl, HB9.out⟩
  have d7 : decide (n < -1125899906842624) = false := decide_eq_false (by omega)
  go_wp2
  go_loopg [12] hooks.length (fun q v12 wr => ∃ k : Nat, v12 = .int .i64 k ∧ k + q = hooks.length ∧ Aside0 (∀ (j : Nat) (hj : j < hooks.length), j < k → -1048576 ≤ hooks[j] ∧ hooks[j] ≤ 1048576) ∧ wr = w2)
  case atStart => exact ⟨0, rfl, by omega, ⟨fun j _ hj => absurd hj (by omega)⟩, rfl⟩
  case round =>
    obtain ⟨k, rfl, hkq, hall, hw⟩ := hrel
    subst hw
    by_cases hlt : k < hooks.length
    · obtain ⟨q, rfl⟩ : ∃ q, gk = q + 1 := ⟨gk - 1, by omega⟩
      have hd : decide ((k : Int) < (hooks.length : Int)) = true := decide_eq_true (by omega)
      obtain ⟨ad, rfl, hc⟩ := Kd.at_int (Kd.C_below H.out.hooks HB2.out) k (by omega) (by omega)
      rw [Int.toNat_natCast] at hc
      have HX := Aside0.mk (show rd hooks k = hooks[k] by simp [rd, List.getD_eq_getElem?_getD, List.getElem?_eq_getElem hlt])
      obtain ⟨x, hx⟩ : ∃ x, rd hooks k = x := ⟨_, rfl⟩
      rw [hx] at hc HX
      clear hx
      by_cases g8 : x ≤ 1048576
      case neg =>
        have d8 : decide (1048576 < x) = true := decide_eq_true (by omega)
        go_wp2_with (go_at_call 9; refine (H.out.opened _ HB2.out).mono ?_; rintro e' w9 ⟨rfl, hb9⟩; have HB9 := Aside0.mk (HB2.out.trans (hb9.mono HB2.out.size)); clear hb9)
        go_ret
        exact ⟨rfl, HB9.out⟩
      have d8 : decide (1048576 < x) = false := decide_eq_false (by omega)
      by_cases g9 : -1048576 ≤ x
      case neg =>
        have d9 : decide (x < -1048576) = true := decide_eq_true (by omega)
        go_wp2_with (go_at_call 9; refine (H.out.opened _ HB2.out).mono ?_; rintro e' w9 ⟨rfl, hb9⟩; have HB9 := Aside0.mk (HB2.out.trans (hb9.mono HB2.out.size)); clear hb9)
        go_ret
        exact ⟨rfl, HB9.out⟩
      have d9 : decide (x < -1048576) = false := decide_eq_false (by omega)
      go_wp2
      go_roundg q
      case measure => omega
      case rel => exact ⟨k + 1, by go_num, by omega, ⟨fun j hj hjk => by
        by_cases he : j = k
        · subst he; rw [← HX.out]; exact ⟨g9, g8⟩
        · exact hall.out j hj (by omega)⟩, rfl⟩
    · have hd : decide ((k : Int) < (hooks.length : Int)) = false := decide_eq_false (by omega)
      have HIn := Aside0.mk (show TIn word upper lower n hooks board from ⟨g0, g1, g2, g3, g4, g5, g6, g7, fun x hx => by
        obtain ⟨j, hj, rfl⟩ := List.mem_iff_getElem.1 hx
        exact hall.out j hj (by omega)⟩)
      clear hall g0 g1 g2 g3 g4 g5 g6 g7 d0 d1 d2 d3 d4 d5 d6 d7
      go_wp2_with (go_at_call 10; refine (new_calls _).mono ?_; rintro e' w3 ⟨p, rfl, hp, hT, hb3⟩; have HT3 := Aside0.mk hT.loose; have HB3 := Aside0.mk (HB2.out.trans (hb3.mono HB2.out.size)); clear hT hb3 hp)
      rename_i K2 a2 K1 a1 K0 a0
      have HK2 : ∀ (u4 u5 u6 u12 u14 u15 u16 u17 u18 u19 u20 u21 u22 u23 u24 u25 u26 u27 u28 u29 u30 u31 u32 u33 u34 u35 u36 u37 u38 u39 u40 u41 u42 u43 u44 u45 u46 u47 u48 u49 u50 u51 u52 u53 u54 u55 u56 u57 u58 u59 u60 u61 u62 u63 u64 u65 u66 u67 u68 u69 u70 u71 u72 u73 u74 u75 u76 u77 u78 u79 u80 u81 u82 u83 u84 u85 u86 u87 u88 u89 u90 u91 u92 u93 u94 u95 u96 u97 u98 u99 u100 u101 u102 u103 u104 u105 u106 u107 u108 u109 u110 u111 u112 u113 u114 u115 u116 u117 u118 u119 u120 u121 u122 u123 u124 u125 u126 u127 u128 u129 u130 u131 u132 u133 u134 u135 u136 u137 u138 u139 u140 u141 u142 u143 u144 u145 u146 u147 u148 u149 u150 u151 u152 u153 u154 u155 u156 u157 u158 u159 u160 u161 u162 u163 u164 u165 u166 u167 u168 u169 u170 u171 u172 u173 u174 u175 u176 u177 u178 u179 u180 u181 u182 u183 u184 u185 u186 u187 u188 u189 u190 u191 u192 u193 u194 u195 u196 u197 u198 u199 u200 u201 u202 u203 u204 u205 u206 u207 u208 u209 u210 u211 u212 : Value) (W : World), Aside0 (Below w.heap.size w W) → Aside0 (ShopAt W p sh0) → K2 { tmps := #[.agg #[.string word, .string upper, .string lower, .int .i64 n, .int .u8 size], .slice A hooks.length c, .string board, .pointer (some ⟨b, 0, none⟩), u4, u5, u6, .string word, .string upper, .string lower, .int .i64 n, .int .u8 size, u12, .pointer (some ⟨p, 0, none⟩), u14, u15, u16, u17, u18, u19, u20, u21, u22, u23, u24, u25, u26, u27, u28, u29, u30, u31, u32, u33, u34, u35, u36, u37, u38, u39, u40, u41, u42, u43, u44, u45, u46, u47, u48, u49, u50, u51, u52, u53, u54, u55, u56, u57, u58, u59, u60, u61, u62, u63, u64, u65, u66, u67, u68, u69, u70, u71, u72, u73, u74, u75, u76, u77, u78, u79, u80, u81, u82, u83, u84, u85, u86, u87, u88, u89, u90, u91, u92, u93, u94, u95, u96, u97, u98, u99, u100, u101, u102, u103, u104, u105, u106, u107, u108, u109, u110, u111, u112, u113, u114, u115, u116, u117, u118, u119, u120, u121, u122, u123, u124, u125, u126, u127, u128, u129, u130, u131, u132, u133, u134, u135, u136, u137, u138, u139, u140, u141, u142, u143, u144, u145, u146, u147, u148, u149, u150, u151, u152, u153, u154, u155, u156, u157, u158, u159, u160, u161, u162, u163, u164, u165, u166, u167, u168, u169, u170, u171, u172, u173, u174, u175, u176, u177, u178, u179, u180, u181, u182, u183, u184, u185, u186, u187, u188, u189, u190, u191, u192, u193, u194, u195, u196, u197, u198, u199, u200, u201, u202, u203, u204, u205, u206, u207, u208, u209, u210, u211, u212], defers := [] } W := by
        clear a0 K0 a1 K1 HT3 HB3 HB2 hlt hd hkq HB1
        intro u4 u5 u6 u12 u14 u15 u16 u17 u18 u19 u20 u21 u22 u23 u24 u25 u26 u27 u28 u29 u30 u31 u32 u33 u34 u35 u36 u37 u38 u39 u40 u41 u42 u43 u44 u45 u46 u47 u48 u49 u50 u51 u52 u53 u54 u55 u56 u57 u58 u59 u60 u61 u62 u63 u64 u65 u66 u67 u68 u69 u70 u71 u72 u73 u74 u75 u76 u77 u78 u79 u80 u81 u82 u83 u84 u85 u86 u87 u88 u89 u90 u91 u92 u93 u94 u95 u96 u97 u98 u99 u100 u101 u102 u103 u104 u105 u106 u107 u108 u109 u110 u111 u112 u113 u114 u115 u116 u117 u118 u119 u120 u121 u122 u123 u124 u125 u126 u127 u128 u129 u130 u131 u132 u133 u134 u135 u136 u137 u138 u139 u140 u141 u142 u143 u144 u145 u146 u147 u148 u149 u150 u151 u152 u153 u154 u155 u156 u157 u158 u159 u160 u161 u162 u163 u164 u165 u166 u167 u168 u169 u170 u171 u172 u173 u174 u175 u176 u177 u178 u179 u180 u181 u182 u183 u184 u185 u186 u187 u188 u189 u190 u191 u192 u193 u194 u195 u196 u197 u198 u199 u200 u201 u202 u203 u204 u205 u206 u207 u208 u209 u210 u211 u212 W HB HS
        refine a2 _ _ ?_
        clear a2
        go_wp2_with (fail)
        rename_i K5 a5 K4 a4 K3 a3
        have HK5 : ∀ (v4 v5 v6 v12 v14 v15 v16 v17 v18 v19 v20 v21 v22 v23 v24 v25 v26 v27 v28 v29 v30 v31 v32 v33 v34 v35 v36 v37 v38 v39 v40 v41 v42 v43 v44 v45 v46 v47 v48 v49 v50 v51 v52 v53 v54 v55 v56 v57 v58 v59 v60 v61 v62 v63 v64 v65 v66 v67 v68 v69 v70 v71 v72 v73 v74 v75 v76 v77 v78 v79 v80 v81 v82 v83 v84 v85 v86 v87 v88 v89 v90 v91 v92 v93 v94 v95 v96 v97 v98 v99 v100 v101 v102 v103 v104 v105 v106 v107 v108 v109 v110 v111 v112 v113 v114 v115 v116 v117 v118 v119 v120 v121 v122 v123 v124 v125 v126 v127 v128 v129 v130 v131 v132 v133 v134 v135 v136 v137 v138 v139 v140 v141 v142 v143 v144 v145 v146 v147 v148 v149 v150 v151 v152 v153 v154 v155 v156 v157 v158 v159 v160 v161 v162 v163 v164 v165 v166 v167 v168 v169 v170 v171 v172 v173 v174 v175 v176 v177 v178 v179 v180 v181 v182 v183 v184 v185 v186 v187 v188 v189 v190 v191 v192 v193 v194 v195 v196 v197 v198 v199 v200 v201 v202 v203 v204 v205 v206 v207 v208 v209 v210 v211 v212 : Value) (W : World), Aside0 (Below w.heap.size w W) → Aside0 (ShopAt W p sh0) → K5 { tmps := #[.agg #[.string word, .string upper, .string lower, .int .i64 n, .int .u8 size], .slice A hooks.length c, .string board, .pointer (some ⟨b, 0, none⟩), v4, v5, v6, .string word, .string upper, .string lower, .int .i64 n, .int .u8 size, v12, .pointer (some ⟨p, 0, none⟩), v14, v15, v16, v17, v18, v19, v20, v21, v22, v23, v24, v25, v26, v27, v28, v29, v30, v31, v32, v33, v34, v35, v36, v37, v38, v39, v40, v41, v42, v43, v44, v45, v46, v47, v48, v49, v50, v51, v52, v53, v54, v55, v56, v57, v58, v59, v60, v61, v62, v63, v64, v65, v66, v67, v68, v69, v70, v71, v72, v73, v74, v75, v76, v77, v78, v79, v80, v81, v82, v83, v84, v85, v86, v87, v88, v89, v90, v91, v92, v93, v94, v95, v96, v97, v98, v99, v100, v101, v102, v103, v104, v105, v106, v107, v108, v109, v110, v111, v112, v113, v114, v115, v116, v117, v118, v119, v120, v121, v122, v123, v124, v125, v126, v127, v128, v129, v130, v131, v132, v133, v134, v135, v136, v137, v138, v139, v140, v141, v142, v143, v144, v145, v146, v147, v148, v149, v150, v151, v152, v153, v154, v155, v156, v157, v158, v159, v160, v161, v162, v163, v164, v165, v166, v167, v168, v169, v170, v171, v172, v173, v174, v175, v176, v177, v178, v179, v180, v181, v182, v183, v184, v185, v186, v187, v188, v189, v190, v191, v192, v193, v194, v195, v196, v197, v198, v199, v200, v201, v202, v203, v204, v205, v206, v207, v208, v209, v210, v211, v212], defers := [] } W := by
          clear a3 K3 a4 K4 HB HS
          intro v4 v5 v6 v12 v14 v15 v16 v17 v18 v19 v20 v21 v22 v23 v24 v25 v26 v27 v28 v29 v30 v31 v32 v33 v34 v35 v36 v37 v38 v39 v40 v41 v42 v43 v44 v45 v46 v47 v48 v49 v50 v51 v52 v53 v54 v55 v56 v57 v58 v59 v60 v61 v62 v63 v64 v65 v66 v67 v68 v69 v70 v71 v72 v73 v74 v75 v76 v77 v78 v79 v80 v81 v82 v83 v84 v85 v86 v87 v88 v89 v90 v91 v92 v93 v94 v95 v96 v97 v98 v99 v100 v101 v102 v103 v104 v105 v106 v107 v108 v109 v110 v111 v112 v113 v114 v115 v116 v117 v118 v119 v120 v121 v122 v123 v124 v125 v126 v127 v128 v129 v130 v131 v132 v133 v134 v135 v136 v137 v138 v139 v140 v141 v142 v143 v144 v145 v146 v147 v148 v149 v150 v151 v152 v153 v154 v155 v156 v157 v158 v159 v160 v161 v162 v163 v164 v165 v166 v167 v168 v169 v170 v171 v172 v173 v174 v175 v176 v177 v178 v179 v180 v181 v182 v183 v184 v185 v186 v187 v188 v189 v190 v191 v192 v193 v194 v195 v196 v197 v198 v199 v200 v201 v202 v203 v204 v205 v206 v207 v208 v209 v210 v211 v212 W HB HS
          refine a5 _ _ ?_
          clear a5
          have hC := Aside0.mk (Kd.C_below H.out.hooks HB.out)
          have hin := HIn.out
          have hH2 := hin.h2
          have hn1 := hin.n1
          have hn0 := hin.n0
          have hlenH : (lineOf (hooks.map itoaB)).size ≤ 22000 := by
            have := line_len hooks (by omega) (fun x hx => by have := HIn.out.hk x hx; omega)
            show (Lib.join _ _).toArray.size ≤ _
            rw [List.size_toArray]
            exact this
          have hlenN : (itoaB n).size ≤ 17 := itoaB_size n (by omega) (by omega)
          have HSpH := Aside0.mk (fun (W' : World) (hb : Below w.heap.size w W') => spaced_calls A c hooks (by omega) (fun x hx => by have := HIn.out.hk x hx; omega) W' (show ReadsInt W' .i64 A hooks.length hooks from Kd.reads_of_C (enc := Value.int .i64) (d := (0 : Int)) (Kd.C_below H.out.hooks hb)))
          have HDN := Aside0.mk (fun (W' : World) => digits_all n (by omega) (by omega) W')
          have HEx := Aside0.mk (fun (W : World) (hb : Below w.heap.size w W) (hs : ShopAt W p sh0) => exec_plait n hn0 hn1 hooks hin.h1 hH2 hin.hk W (H.out.glob.below hb) p sh0 hs)
          rw [plait_line n hooks hin.h1] at HEx
          have HPL := Aside0.mk (show plaitF n hooks = if hooksBad n hooks = true then bangB 2 else lineOf ((listOf n.toNat (hk n.toNat hooks (ident n.toNat) 0).1).map itoaB) ++ ⟨#[32, 47, 32]⟩ ++ itoaB ((hk n.toNat hooks (ident n.toNat) 0).2 : Int) from rfl)
          have HBadI := Aside0.mk (fun (h : hooksBad n hooks = true) => hooks_bad n hooks A c (by omega) W hC.out h)
          have HGoodI := Aside0.mk (fun (h : hooksBad n hooks = false) => hooks_reads n hooks (by omega) h W A c hC.out)
          obtain ⟨sh, hsh⟩ : ∃ s, lineOf (hooks.map itoaB) = s := ⟨_, rfl⟩
          obtain ⟨sn, hsn⟩ : ∃ s, itoaB n = s := ⟨_, rfl⟩
          obtain ⟨rp, hrp⟩ : ∃ s, plaitF n hooks = s := ⟨_, rfl⟩
          rw [hsh] at hlenH HSpH HEx
          rw [hsn] at hlenN HDN HEx
          rw [hrp] at HEx HPL
          have ha1 : ∀ (W : World), (Op.stringOp .add ⟨#[112, 108, 97, 105, 116, 32]⟩ sn).run Tryz.prog W = .ok (.string (⟨#[112, 108, 97, 105, 116, 32]⟩ ++ sn)) W := fun W => run_string_add_sum W _ _ (by show 6 + sn.size ≤ 9223372036854775807; omega)
          have ha2 : ∀ (W : World), (Op.stringOp .add (⟨#[112, 108, 97, 105, 116, 32]⟩ ++ sn) ⟨#[32]⟩).run Tryz.prog W = .ok (.string (⟨#[112, 108, 97, 105, 116, 32]⟩ ++ sn ++ ⟨#[32]⟩)) W := fun W => run_string_add_sum W _ _ (by rw [ByteArray.size_append]; show 6 + sn.size + 1 ≤ 9223372036854775807; omega)
          have ha3 : ∀ (W : World), (Op.stringOp .add (⟨#[112, 108, 97, 105, 116, 32]⟩ ++ sn ++ ⟨#[32]⟩) sh).run Tryz.prog W = .ok (.string (⟨#[112, 108, 97, 105, 116, 32]⟩ ++ sn ++ ⟨#[32]⟩ ++ sh)) W := fun W => run_string_add_sum W _ _ (by rw [ByteArray.size_append, ByteArray.size_append]; show 6 + sn.size + 1 + sh.size ≤ 9223372036854775807; omega)
          have hbs := hin.board
          obtain ⟨m, hm⟩ : ∃ m : Nat, size.tmod 11 = (m : Int) := ⟨(size.tmod 11).toNat, by have := H.out.size0; have := Int.tmod_nonneg 11 this; omega⟩
          have hmb : m ≤ 10 := by have h0 := H.out.size0; have := Int.tmod_lt_of_pos size (b := 11) (by omega); omega
          obtain ⟨kk, hkk⟩ : ∃ kk : Nat, kk = m + 1 := ⟨_, rfl⟩
          have hci : ((kk : Int) * (kk : Int)) = ((kk * kk : Nat) : Int) := by rw [Int.natCast_mul]
          have hka : 1 ≤ kk := by omega
          have hkb : kk ≤ 11 := by omega
          have HPB := Aside0.mk (fun (W : World) => plain_calls board (by omega) W)
          have HWR := Aside0.mk (kk_facts m kk hkk hmb)
          clear hsh hsn hrp hin hkk hmb
          by_cases hsz : board.size = kk * kk
          case neg =>
            have hq : ((board.size : Int) != (kk : Int) * (kk : Int)) = true := by rw [hci]; simp; omega
            clear hsz hci
            by_cases hbad : hooksBad n hooks = true
            · rw [HPL.out, if_pos hbad] at HEx
              have HHk := Aside0.mk (HBadI.out hbad)
              have HSp0' := Aside0.mk (fun (W : World) => (show Calls Tryz.prog 18 #[.slice none 0 0] W fun e w' => e = .returned (.string ⟨#[]⟩) ∧ Below W.heap.size W w' from spaced_calls none 0 [] (by decide) (fun x hx => absurd hx (by simp)) W ⟨rfl, by decide, fun h => absurd h (by decide)⟩))
              have HD0 := Aside0.mk (fun (W : World) => digits_s0 W)
              clear HBadI HGoodI HPL hC
              obtain ⟨hw1, hw2, hw3, hw4, hw5⟩ := HWR.out
              go_wp2_with (first | (go_at_call 17; (with_reducible refine (HHk.out).mono ?_); rintro e' x1 ⟨rfl, hbx⟩; have HB1 := Aside0.mk (HB.out.trans (hbx.mono HB.out.size)); have HS1 := Aside0.mk (HS.out.below hbx); clear hbx) | (go_at_call 18; (with_reducible refine (HSp0'.out _).mono ?_); rintro e' x2 ⟨rfl, hbx⟩; have HB2 := Aside0.mk (HB1.out.trans (hbx.mono HB1.out.size)); have HS2 := Aside0.mk (HS1.out.below hbx); clear hbx) | (go_at_call 16; (with_reducible refine (HD0.out _).mono ?_); rintro e' x3 ⟨rfl, hbx⟩; have HB3 := Aside0.mk (HB2.out.trans (hbx.mono HB2.out.size)); have HS3 := Aside0.mk (HS2.out.below hbx); clear hbx) | (go_at_call 13; (with_reducible refine (refused_calls 2 (by decide) (by decide) _).mono ?_); rintro e' x4 ⟨rfl, hbx⟩; have HB4 := Aside0.mk (HB3.out.trans (hbx.mono HB3.out.size)); have HS4 := Aside0.mk (HS3.out.below hbx); clear hbx) | (go_at_call 16; (with_reducible refine (HDN.out _).mono ?_); rintro e' x5 ⟨rfl, hbx⟩; have HB5 := Aside0.mk (HB4.out.trans (hbx.mono HB4.out.size)); have HS5 := Aside0.mk (HS4.out.below hbx); clear hbx) | (go_at_call 18; (with_reducible refine (HSpH.out _ HB5.out).mono ?_); rintro e' x6 ⟨rfl, hbx⟩; have HB6 := Aside0.mk (HB5.out.trans (hbx.mono HB5.out.size)); have HS6 := Aside0.mk (HS5.out.below hbx); clear hbx) | (go_at_call 14; (with_reducible refine (HEx.out _ HB6.out HS6.out).mono ?_); rintro e' x7 ⟨rfl, hbx⟩; have HB7 := Aside0.mk (HB6.out.trans (hbx.mono HB6.out.size)); have HS7 := Aside0.mk (HS6.out.below hbx); clear hbx) | (go_at_call 9; (with_reducible refine (H.out.opened _ HB7.out).mono ?_); rintro e' wo ⟨rfl, hbx⟩; have HBo := Aside0.mk (HB7.out.trans (hbx.mono HB7.out.size)); have HSo := Aside0.mk (HS7.out.below hbx); clear hbx))
              go_ret
              exact ⟨rfl, HBo.out⟩
            · have hbad' : hooksBad n hooks = false := by simpa using hbad
              rw [HPL.out, if_neg hbad] at HEx
              have HHk := Aside0.mk (HGoodI.out hbad')
              clear HBadI HGoodI HPL hC
              obtain ⟨D, hD⟩ : ∃ D, listOf n.toNat (hk n.toNat hooks (ident n.toNat) 0).1 = D := ⟨_, rfl⟩
              obtain ⟨lp, hlp⟩ : ∃ lp : Int, ((hk n.toNat hooks (ident n.toNat) 0).2 : Int) = lp := ⟨_, rfl⟩
              rw [hD, hlp] at HHk HEx
              clear hD hlp
              go_wp2_with (go_at_call 17; (with_reducible refine HHk.out.mono ?_); rintro e' x1 ⟨A', c2, rfl, hrd, hfa, hbx⟩; have HRD := Aside0.mk hrd; have HFA := Aside0.mk hfa; have HB1 := Aside0.mk (HB.out.trans (hbx.mono HB.out.size)); have HS1 := Aside0.mk (HS.out.below hbx); clear hbx hrd hfa)
              obtain ⟨hf1, hf2, hf3, hf4⟩ := HFA.out
              have HSpD := Aside0.mk (spaced_calls A' c2 D (by omega) (fun x hx => by have := hf2 x hx; omega) x1 HRD.out)
              have HDl := Aside0.mk (fun (W : World) => digits_all lp (by omega) (by omega) W)
              have hlenD : (lineOf (D.map itoaB)).size ≤ 22000 := by
                have := line_len D (by omega) (fun x hx => by have := hf2 x hx; omega)
                show (Lib.join _ _).toArray.size ≤ _
                rw [List.size_toArray]
                exact this
              have hlenL : (itoaB lp).size ≤ 17 := itoaB_size lp (by omega) (by omega)
              obtain ⟨sd, hsd⟩ : ∃ s, lineOf (D.map itoaB) = s := ⟨_, rfl⟩
              obtain ⟨sl, hsl⟩ : ∃ s, itoaB lp = s := ⟨_, rfl⟩
              rw [hsd] at hlenD HSpD HEx
              rw [hsl] at hlenL HDl HEx
              have hb1 : ∀ (W : World), (Op.stringOp .add sd ⟨#[32, 47, 32]⟩).run Tryz.prog W = .ok (.string (sd ++ ⟨#[32, 47, 32]⟩)) W := fun W => run_string_add_sum W _ _ (by show sd.size + 3 ≤ 9223372036854775807; omega)
              have hb2 : ∀ (W : World), (Op.stringOp .add (sd ++ ⟨#[32, 47, 32]⟩) sl).run Tryz.prog W = .ok (.string (sd ++ ⟨#[32, 47, 32]⟩ ++ sl)) W := fun W => run_string_add_sum W _ _ (by rw [ByteArray.size_append]; show sd.size + 3 + sl.size ≤ 9223372036854775807; omega)
              clear hsd hsl hf1 hf2 hf3 hf4
              obtain ⟨hw1, hw2, hw3, hw4, hw5⟩ := HWR.out
              go_wp2_with (first | (go_at_call 18; (with_reducible refine (HSpD.out).mono ?_); rintro e' x2 ⟨rfl, hbx⟩; have HB2 := Aside0.mk (HB1.out.trans (hbx.mono HB1.out.size)); have HS2 := Aside0.mk (HS1.out.below hbx); clear hbx) | (go_at_call 16; (with_reducible refine (HDl.out _).mono ?_); rintro e' x3 ⟨rfl, hbx⟩; have HB3 := Aside0.mk (HB2.out.trans (hbx.mono HB2.out.size)); have HS3 := Aside0.mk (HS2.out.below hbx); clear hbx) | (go_at_call 16; (with_reducible refine (HDN.out _).mono ?_); rintro e' x5 ⟨rfl, hbx⟩; have HB5 := Aside0.mk (HB3.out.trans (hbx.mono HB3.out.size)); have HS5 := Aside0.mk (HS3.out.below hbx); clear hbx) | (go_at_call 18; (with_reducible refine (HSpH.out _ HB5.out).mono ?_); rintro e' x6 ⟨rfl, hbx⟩; have HB6 := Aside0.mk (HB5.out.trans (hbx.mono HB5.out.size)); have HS6 := Aside0.mk (HS5.out.below hbx); clear hbx) | (go_at_call 14; (with_reducible refine (HEx.out _ HB6.out HS6.out).mono ?_); rintro e' x7 ⟨rfl, hbx⟩; have HB7 := Aside0.mk (HB6.out.trans (hbx.mono HB6.out.size)); have HS7 := Aside0.mk (HS6.out.below hbx); clear hbx) | (go_at_call 9; (with_reducible refine (H.out.opened _ HB7.out).mono ?_); rintro e' wo ⟨rfl, hbx⟩; have HBo := Aside0.mk (HB7.out.trans (hbx.mono HB7.out.size)); have HSo := Aside0.mk (HS7.out.below hbx); clear hbx))
              go_ret
              exact ⟨rfl, HBo.out⟩
          have hq : ((board.size : Int) != (kk : Int) * (kk : Int)) = false := by rw [hci, hsz]; simp
          cases hpb : plainB board
          · rw [hpb] at HPB
            clear hsz hci
            by_cases hbad : hooksBad n hooks = true
            · rw [HPL.out, if_pos hbad] at HEx
              have HHk := Aside0.mk (HBadI.out hbad)
              have HSp0' := Aside0.mk (fun (W : World) => (show Calls Tryz.prog 18 #[.slice none 0 0] W fun e w' => e = .returned (.string ⟨#[]⟩) ∧ Below W.heap.size W w' from spaced_calls none 0 [] (by decide) (fun x hx => absurd hx (by simp)) W ⟨rfl, by decide, fun h => absurd h (by decide)⟩))
              have HD0 := Aside0.mk (fun (W : World) => digits_s0 W)
              clear HBadI HGoodI HPL hC
              obtain ⟨hw1, hw2, hw3, hw4, hw5⟩ := HWR.out
              go_wp2_with (first | (go_at_call 17; (with_reducible refine (HHk.out).mono ?_); rintro e' x1 ⟨rfl, hbx⟩; have HB1 := Aside0.mk (HB.out.trans (hbx.mono HB.out.size)); have HS1 := Aside0.mk (HS.out.below hbx); clear hbx) | (go_at_call 18; (with_reducible refine (HSp0'.out _).mono ?_); rintro e' x2 ⟨rfl, hbx⟩; have HB2 := Aside0.mk (HB1.out.trans (hbx.mono HB1.out.size)); have HS2 := Aside0.mk (HS1.out.below hbx); clear hbx) | (go_at_call 16; (with_reducible refine (HD0.out _).mono ?_); rintro e' x3 ⟨rfl, hbx⟩; have HB3 := Aside0.mk (HB2.out.trans (hbx.mono HB2.out.size)); have HS3 := Aside0.mk (HS2.out.below hbx); clear hbx) | (go_at_call 13; (with_reducible refine (refused_calls 2 (by decide) (by decide) _).mono ?_); rintro e' x4 ⟨rfl, hbx⟩; have HB4 := Aside0.mk (HB3.out.trans (hbx.mono HB3.out.size)); have HS4 := Aside0.mk (HS3.out.below hbx); clear hbx) | (go_at_call 16; (with_reducible refine (HDN.out _).mono ?_); rintro e' x5 ⟨rfl, hbx⟩; have HB5 := Aside0.mk (HB4.out.trans (hbx.mono HB4.out.size)); have HS5 := Aside0.mk (HS4.out.below hbx); clear hbx) | (go_at_call 18; (with_reducible refine (HSpH.out _ HB5.out).mono ?_); rintro e' x6 ⟨rfl, hbx⟩; have HB6 := Aside0.mk (HB5.out.trans (hbx.mono HB5.out.size)); have HS6 := Aside0.mk (HS5.out.below hbx); clear hbx) | (go_at_call 14; (with_reducible refine (HEx.out _ HB6.out HS6.out).mono ?_); rintro e' x7 ⟨rfl, hbx⟩; have HB7 := Aside0.mk (HB6.out.trans (hbx.mono HB6.out.size)); have HS7 := Aside0.mk (HS6.out.below hbx); clear hbx) | (go_at_call 11; (with_reducible refine (HPB.out _).mono ?_); rintro e' wp ⟨rfl, rfl⟩) | (go_at_call 9; (with_reducible refine (H.out.opened _ HB7.out).mono ?_); rintro e' wo ⟨rfl, hbx⟩; have HBo := Aside0.mk (HB7.out.trans (hbx.mono HB7.out.size)); have HSo := Aside0.mk (HS7.out.below hbx); clear hbx))
              go_ret
              exact ⟨rfl, HBo.out⟩
            · have hbad' : hooksBad n hooks = false := by simpa using hbad
              rw [HPL.out, if_neg hbad] at HEx
              have HHk := Aside0.mk (HGoodI.out hbad')
              clear HBadI HGoodI HPL hC
              obtain ⟨D, hD⟩ : ∃ D, listOf n.toNat (hk n.toNat hooks (ident n.toNat) 0).1 = D := ⟨_, rfl⟩
              obtain ⟨lp, hlp⟩ : ∃ lp : Int, ((hk n.toNat hooks (ident n.toNat) 0).2 : Int) = lp := ⟨_, rfl⟩
              rw [hD, hlp] at HHk HEx
              clear hD hlp
              go_wp2_with (go_at_call 17; (with_reducible refine HHk.out.mono ?_); rintro e' x1 ⟨A', c2, rfl, hrd, hfa, hbx⟩; have HRD := Aside0.mk hrd; have HFA := Aside0.mk hfa; have HB1 := Aside0.mk (HB.out.trans (hbx.mono HB.out.size)); have HS1 := Aside0.mk (HS.out.below hbx); clear hbx hrd hfa)
              obtain ⟨hf1, hf2, hf3, hf4⟩ := HFA.out
              have HSpD := Aside0.mk (spaced_calls A' c2 D (by omega) (fun x hx => by have := hf2 x hx; omega) x1 HRD.out)
              have HDl := Aside0.mk (fun (W : World) => digits_all lp (by omega) (by omega) W)
              have hlenD : (lineOf (D.map itoaB)).size ≤ 22000 := by
                have := line_len D (by omega) (fun x hx => by have := hf2 x hx; omega)
                show (Lib.join _ _).toArray.size ≤ _
                rw [List.size_toArray]
                exact this
              have hlenL : (itoaB lp).size ≤ 17 := itoaB_size lp (by omega) (by omega)
              obtain ⟨sd, hsd⟩ : ∃ s, lineOf (D.map itoaB) = s := ⟨_, rfl⟩
              obtain ⟨sl, hsl⟩ : ∃ s, itoaB lp = s := ⟨_, rfl⟩
              rw [hsd] at hlenD HSpD HEx
              rw [hsl] at hlenL HDl HEx
              have hb1 : ∀ (W : World), (Op.stringOp .add sd ⟨#[32, 47, 32]⟩).run Tryz.prog W = .ok (.string (sd ++ ⟨#[32, 47, 32]⟩)) W := fun W => run_string_add_sum W _ _ (by show sd.size + 3 ≤ 9223372036854775807; omega)
              have hb2 : ∀ (W : World), (Op.stringOp .add (sd ++ ⟨#[32, 47, 32]⟩) sl).run Tryz.prog W = .ok (.string (sd ++ ⟨#[32, 47, 32]⟩ ++ sl)) W := fun W => run_string_add_sum W _ _ (by rw [ByteArray.size_append]; show sd.size + 3 + sl.size ≤ 9223372036854775807; omega)
              clear hsd hsl hf1 hf2 hf3 hf4
              obtain ⟨hw1, hw2, hw3, hw4, hw5⟩ := HWR.out
              go_wp2_with (first | (go_at_call 18; (with_reducible refine (HSpD.out).mono ?_); rintro e' x2 ⟨rfl, hbx⟩; have HB2 := Aside0.mk (HB1.out.trans (hbx.mono HB1.out.size)); have HS2 := Aside0.mk (HS1.out.below hbx); clear hbx) | (go_at_call 16; (with_reducible refine (HDl.out _).mono ?_); rintro e' x3 ⟨rfl, hbx⟩; have HB3 := Aside0.mk (HB2.out.trans (hbx.mono HB2.out.size)); have HS3 := Aside0.mk (HS2.out.below hbx); clear hbx) | (go_at_call 16; (with_reducible refine (HDN.out _).mono ?_); rintro e' x5 ⟨rfl, hbx⟩; have HB5 := Aside0.mk (HB3.out.trans (hbx.mono HB3.out.size)); have HS5 := Aside0.mk (HS3.out.below hbx); clear hbx) | (go_at_call 18; (with_reducible refine (HSpH.out _ HB5.out).mono ?_); rintro e' x6 ⟨rfl, hbx⟩; have HB6 := Aside0.mk (HB5.out.trans (hbx.mono HB5.out.size)); have HS6 := Aside0.mk (HS5.out.below hbx); clear hbx) | (go_at_call 14; (with_reducible refine (HEx.out _ HB6.out HS6.out).mono ?_); rintro e' x7 ⟨rfl, hbx⟩; have HB7 := Aside0.mk (HB6.out.trans (hbx.mono HB6.out.size)); have HS7 := Aside0.mk (HS6.out.below hbx); clear hbx) | (go_at_call 11; (with_reducible refine (HPB.out _).mono ?_); rintro e' wp ⟨rfl, rfl⟩) | (go_at_call 9; (with_reducible refine (H.out.opened _ HB7.out).mono ?_); rintro e' wo ⟨rfl, hbx⟩; have HBo := Aside0.mk (HB7.out.trans (hbx.mono HB7.out.size)); have HSo := Aside0.mk (HS7.out.below hbx); clear hbx))
              go_ret
              exact ⟨rfl, HBo.out⟩
          · rw [hpb] at HPB
            have hwb := (plainB_iff board).1 hpb
            have HEh := Aside0.mk (fun (W : World) (hb : Below w.heap.size w W) (hs : ShopAt W p sh0) => exec_hex kk hka hkb board hsz hwb W (H.out.glob.below hb) p sh0 hs)
            rw [hex_line] at HEh
            have hc1 : ∀ (W : World), (Op.stringOp .add ⟨#[104, 101, 120, 32]⟩ board).run Tryz.prog W = .ok (.string (⟨#[104, 101, 120, 32]⟩ ++ board)) W := fun W => run_string_add_sum W _ _ (by show 4 + board.size ≤ 9223372036854775807; omega)
            unfold hexF at HEh
            by_cases hxo : xo board = true
            · rw [if_pos hxo] at HEh
              have hDL := bridgeF_len kk (bytesOf board) (winnerF kk (bytesOf board))
              have hM := bridgeF_mem kk (bytesOf board) (winnerF kk (bytesOf board))
              have hps := wstr_size kk (bytesOf board)
              have HWn := Aside0.mk (fun (W : World) (hb : Below w.heap.size w W) => winner_reads kk hka hkb board hsz hxo W (H.out.glob.below hb).steps)
              obtain ⟨D2, hD2⟩ : ∃ D, bridgeF kk (bytesOf board) (winnerF kk (bytesOf board)) = D := ⟨_, rfl⟩
              obtain ⟨P2, hP2⟩ : ∃ D, wstr kk (bytesOf board) = D := ⟨_, rfl⟩
              rw [hD2] at hDL hM HEh HWn
              rw [hP2] at hps HEh HWn
              have hDl : D2.length ≤ 1000 := by have : kk * kk ≤ 11 * 11 := Nat.mul_le_mul hkb hkb; omega
              have hDb : ∀ x ∈ D2, -1152921504606846976 ≤ x ∧ x ≤ 1152921504606846976 := fun x hx => by have := hM x hx; have : kk * kk ≤ 11 * 11 := Nat.mul_le_mul hkb hkb; omega
              have hlen2 : (lineOf (D2.map itoaB)).size ≤ 22000 := by
                have := line_len D2 hDl (fun x hx => by have := hDb x hx; omega)
                show (Lib.join _ _).toArray.size ≤ _
                rw [List.size_toArray]
                exact this
              have HSp2 := Aside0.mk (fun (W : World) (A' : Option Addr) (c' : Nat) (h : ReadsInt W .i64 A' D2.length D2) => spaced_calls A' c' D2 hDl hDb W h)
              obtain ⟨s2, hs2⟩ : ∃ s, lineOf (D2.map itoaB) = s := ⟨_, rfl⟩
              rw [hs2] at hlen2 HSp2 HEh
              have hc2 : ∀ (W : World), (Op.stringOp .add P2 ⟨#[32]⟩).run Tryz.prog W = .ok (.string (P2 ++ ⟨#[32]⟩)) W := fun W => run_string_add_sum W _ _ (by show P2.size + 1 ≤ 9223372036854775807; omega)
              have hc3 : ∀ (W : World), (Op.stringOp .add (P2 ++ ⟨#[32]⟩) s2).run Tryz.prog W = .ok (.string (P2 ++ ⟨#[32]⟩ ++ s2)) W := fun W => run_string_add_sum W _ _ (by rw [ByteArray.size_append]; show P2.size + 1 + s2.size ≤ 9223372036854775807; omega)
              clear hD2 hP2 hs2 hM hDb hDL hwb hsz hci hDl
              by_cases hbad : hooksBad n hooks = true
              · rw [HPL.out, if_pos hbad] at HEx
                have HHk := Aside0.mk (HBadI.out hbad)
                have HSp0' := Aside0.mk (fun (W : World) => (show Calls Tryz.prog 18 #[.slice none 0 0] W fun e w' => e = .returned (.string ⟨#[]⟩) ∧ Below W.heap.size W w' from spaced_calls none 0 [] (by decide) (fun x hx => absurd hx (by simp)) W ⟨rfl, by decide, fun h => absurd h (by decide)⟩))
                have HD0 := Aside0.mk (fun (W : World) => digits_s0 W)
                clear HBadI HGoodI HPL hC
                obtain ⟨hw1, hw2, hw3, hw4, hw5⟩ := HWR.out
                go_wp2_with (first | (go_at_call 17; (with_reducible refine (HHk.out).mono ?_); rintro e' x1 ⟨rfl, hbx⟩; have HB1 := Aside0.mk (HB.out.trans (hbx.mono HB.out.size)); have HS1 := Aside0.mk (HS.out.below hbx); clear hbx) | (go_at_call 18; (with_reducible refine (HSp0'.out _).mono ?_); rintro e' x2 ⟨rfl, hbx⟩; have HB2 := Aside0.mk (HB1.out.trans (hbx.mono HB1.out.size)); have HS2 := Aside0.mk (HS1.out.below hbx); clear hbx) | (go_at_call 16; (with_reducible refine (HD0.out _).mono ?_); rintro e' x3 ⟨rfl, hbx⟩; have HB3 := Aside0.mk (HB2.out.trans (hbx.mono HB2.out.size)); have HS3 := Aside0.mk (HS2.out.below hbx); clear hbx) | (go_at_call 13; (with_reducible refine (refused_calls 2 (by decide) (by decide) _).mono ?_); rintro e' x4 ⟨rfl, hbx⟩; have HB4 := Aside0.mk (HB3.out.trans (hbx.mono HB3.out.size)); have HS4 := Aside0.mk (HS3.out.below hbx); clear hbx) | (go_at_call 16; (with_reducible refine (HDN.out _).mono ?_); rintro e' x5 ⟨rfl, hbx⟩; have HB5 := Aside0.mk (HB4.out.trans (hbx.mono HB4.out.size)); have HS5 := Aside0.mk (HS4.out.below hbx); clear hbx) | (go_at_call 18; (with_reducible refine (HSpH.out _ HB5.out).mono ?_); rintro e' x6 ⟨rfl, hbx⟩; have HB6 := Aside0.mk (HB5.out.trans (hbx.mono HB5.out.size)); have HS6 := Aside0.mk (HS5.out.below hbx); clear hbx) | (go_at_call 14; (with_reducible refine (HEx.out _ HB6.out HS6.out).mono ?_); rintro e' x7 ⟨rfl, hbx⟩; have HB7 := Aside0.mk (HB6.out.trans (hbx.mono HB6.out.size)); have HS7 := Aside0.mk (HS6.out.below hbx); clear hbx) | (go_at_call 11; (with_reducible refine (HPB.out _).mono ?_); rintro e' wp ⟨rfl, rfl⟩) | (go_at_call 19; (with_reducible refine (HWn.out _ HB7.out).mono ?_); rintro e' ww ⟨A2, c2', rfl, hrd2, hbx⟩; have HRD2 := Aside0.mk hrd2; have HBw := Aside0.mk (HB7.out.trans (hbx.mono HB7.out.size)); have HSw := Aside0.mk (HS7.out.below hbx); clear hbx hrd2) | (go_at_call 18; (with_reducible refine (HSp2.out _ _ _ HRD2.out).mono ?_); rintro e' ws ⟨rfl, hbx⟩; have HBs := Aside0.mk (HBw.out.trans (hbx.mono HBw.out.size)); have HSs := Aside0.mk (HSw.out.below hbx); clear hbx) | (go_at_call 14; (with_reducible refine (HEh.out _ HBs.out HSs.out).mono ?_); rintro e' we ⟨rfl, hbx⟩; have HBe := Aside0.mk (HBs.out.trans (hbx.mono HBs.out.size)); have HSe := Aside0.mk (HSs.out.below hbx); clear hbx) | (go_at_call 9; (with_reducible refine (H.out.opened _ HBe.out).mono ?_); rintro e' wo ⟨rfl, hbx⟩; have HBo := Aside0.mk (HBe.out.trans (hbx.mono HBe.out.size)); have HSo := Aside0.mk (HSe.out.below hbx); clear hbx))
                go_ret
                exact ⟨rfl, HBo.out⟩
              · have hbad' : hooksBad n hooks = false := by simpa using hbad
                rw [HPL.out, if_neg hbad] at HEx
                have HHk := Aside0.mk (HGoodI.out hbad')
                clear HBadI HGoodI HPL hC
                obtain ⟨D, hD⟩ : ∃ D, listOf n.toNat (hk n.toNat hooks (ident n.toNat) 0).1 = D := ⟨_, rfl⟩
                obtain ⟨lp, hlp⟩ : ∃ lp : Int, ((hk n.toNat hooks (ident n.toNat) 0).2 : Int) = lp := ⟨_, rfl⟩
                rw [hD, hlp] at HHk HEx
                clear hD hlp
                go_wp2_with (go_at_call 17; (with_reducible refine HHk.out.mono ?_); rintro e' x1 ⟨A', c2, rfl, hrd, hfa, hbx⟩; have HRD := Aside0.mk hrd; have HFA := Aside0.mk hfa; have HB1 := Aside0.mk (HB.out.trans (hbx.mono HB.out.size)); have HS1 := Aside0.mk (HS.out.below hbx); clear hbx hrd hfa)
                obtain ⟨hf1, hf2, hf3, hf4⟩ := HFA.out
                have HSpD := Aside0.mk (spaced_calls A' c2 D (by omega) (fun x hx => by have := hf2 x hx; omega) x1 HRD.out)
                have HDl := Aside0.mk (fun (W : World) => digits_all lp (by omega) (by omega) W)
                have hlenD : (lineOf (D.map itoaB)).size ≤ 22000 := by
                  have := line_len D (by omega) (fun x hx => by have := hf2 x hx; omega)
                  show (Lib.join _ _).toArray.size ≤ _
                  rw [List.size_toArray]
                  exact this
                have hlenL : (itoaB lp).size ≤ 17 := itoaB_size lp (by omega) (by omega)
                obtain ⟨sd, hsd⟩ : ∃ s, lineOf (D.map itoaB) = s := ⟨_, rfl⟩
                obtain ⟨sl, hsl⟩ : ∃ s, itoaB lp = s := ⟨_, rfl⟩
                rw [hsd] at hlenD HSpD HEx
                rw [hsl] at hlenL HDl HEx
                have hb1 : ∀ (W : World), (Op.stringOp .add sd ⟨#[32, 47, 32]⟩).run Tryz.prog W = .ok (.string (sd ++ ⟨#[32, 47, 32]⟩)) W := fun W => run_string_add_sum W _ _ (by show sd.size + 3 ≤ 9223372036854775807; omega)
                have hb2 : ∀ (W : World), (Op.stringOp .add (sd ++ ⟨#[32, 47, 32]⟩) sl).run Tryz.prog W = .ok (.string (sd ++ ⟨#[32, 47, 32]⟩ ++ sl)) W := fun W => run_string_add_sum W _ _ (by rw [ByteArray.size_append]; show sd.size + 3 + sl.size ≤ 9223372036854775807; omega)
                clear hsd hsl hf1 hf2 hf3 hf4
                obtain ⟨hw1, hw2, hw3, hw4, hw5⟩ := HWR.out
                go_wp2_with (first | (go_at_call 18; (with_reducible refine (HSpD.out).mono ?_); rintro e' x2 ⟨rfl, hbx⟩; have HB2 := Aside0.mk (HB1.out.trans (hbx.mono HB1.out.size)); have HS2 := Aside0.mk (HS1.out.below hbx); clear hbx) | (go_at_call 16; (with_reducible refine (HDl.out _).mono ?_); rintro e' x3 ⟨rfl, hbx⟩; have HB3 := Aside0.mk (HB2.out.trans (hbx.mono HB2.out.size)); have HS3 := Aside0.mk (HS2.out.below hbx); clear hbx) | (go_at_call 16; (with_reducible refine (HDN.out _).mono ?_); rintro e' x5 ⟨rfl, hbx⟩; have HB5 := Aside0.mk (HB3.out.trans (hbx.mono HB3.out.size)); have HS5 := Aside0.mk (HS3.out.below hbx); clear hbx) | (go_at_call 18; (with_reducible refine (HSpH.out _ HB5.out).mono ?_); rintro e' x6 ⟨rfl, hbx⟩; have HB6 := Aside0.mk (HB5.out.trans (hbx.mono HB5.out.size)); have HS6 := Aside0.mk (HS5.out.below hbx); clear hbx) | (go_at_call 14; (with_reducible refine (HEx.out _ HB6.out HS6.out).mono ?_); rintro e' x7 ⟨rfl, hbx⟩; have HB7 := Aside0.mk (HB6.out.trans (hbx.mono HB6.out.size)); have HS7 := Aside0.mk (HS6.out.below hbx); clear hbx) | (go_at_call 11; (with_reducible refine (HPB.out _).mono ?_); rintro e' wp ⟨rfl, rfl⟩) | (go_at_call 19; (with_reducible refine (HWn.out _ HB7.out).mono ?_); rintro e' ww ⟨A2, c2', rfl, hrd2, hbx⟩; have HRD2 := Aside0.mk hrd2; have HBw := Aside0.mk (HB7.out.trans (hbx.mono HB7.out.size)); have HSw := Aside0.mk (HS7.out.below hbx); clear hbx hrd2) | (go_at_call 18; (with_reducible refine (HSp2.out _ _ _ HRD2.out).mono ?_); rintro e' ws ⟨rfl, hbx⟩; have HBs := Aside0.mk (HBw.out.trans (hbx.mono HBw.out.size)); have HSs := Aside0.mk (HSw.out.below hbx); clear hbx) | (go_at_call 14; (with_reducible refine (HEh.out _ HBs.out HSs.out).mono ?_); rintro e' we ⟨rfl, hbx⟩; have HBe := Aside0.mk (HBs.out.trans (hbx.mono HBs.out.size)); have HSe := Aside0.mk (HSs.out.below hbx); clear hbx) | (go_at_call 9; (with_reducible refine (H.out.opened _ HBe.out).mono ?_); rintro e' wo ⟨rfl, hbx⟩; have HBo := Aside0.mk (HBe.out.trans (hbx.mono HBe.out.size)); have HSo := Aside0.mk (HSe.out.below hbx); clear hbx))
                go_ret
                exact ⟨rfl, HBo.out⟩
            · rw [if_neg hxo] at HEh
              have hxo' : xo board = false := by simpa using hxo
              have HWn := Aside0.mk (fun (W : World) => winner_bad kk hka hkb board hsz hxo' W)
              have HSp0 := Aside0.mk (fun (W : World) => (show Calls Tryz.prog 18 #[.slice none 0 0] W fun e w' => e = .returned (.string ⟨#[]⟩) ∧ Below W.heap.size W w' from spaced_calls none 0 [] (by decide) (fun x hx => absurd hx (by simp)) W ⟨rfl, by decide, fun h => absurd h (by decide)⟩))
              clear hwb hsz hci
              by_cases hbad : hooksBad n hooks = true
              · rw [HPL.out, if_pos hbad] at HEx
                have HHk := Aside0.mk (HBadI.out hbad)
                have HSp0' := Aside0.mk (fun (W : World) => (show Calls Tryz.prog 18 #[.slice none 0 0] W fun e w' => e = .returned (.string ⟨#[]⟩) ∧ Below W.heap.size W w' from spaced_calls none 0 [] (by decide) (fun x hx => absurd hx (by simp)) W ⟨rfl, by decide, fun h => absurd h (by decide)⟩))
                have HD0 := Aside0.mk (fun (W : World) => digits_s0 W)
                clear HBadI HGoodI HPL hC
                obtain ⟨hw1, hw2, hw3, hw4, hw5⟩ := HWR.out
                go_wp2_with (first | (go_at_call 17; (with_reducible refine (HHk.out).mono ?_); rintro e' x1 ⟨rfl, hbx⟩; have HB1 := Aside0.mk (HB.out.trans (hbx.mono HB.out.size)); have HS1 := Aside0.mk (HS.out.below hbx); clear hbx) | (go_at_call 18; (with_reducible refine (HSp0'.out _).mono ?_); rintro e' x2 ⟨rfl, hbx⟩; have HB2 := Aside0.mk (HB1.out.trans (hbx.mono HB1.out.size)); have HS2 := Aside0.mk (HS1.out.below hbx); clear hbx) | (go_at_call 16; (with_reducible refine (HD0.out _).mono ?_); rintro e' x3 ⟨rfl, hbx⟩; have HB3 := Aside0.mk (HB2.out.trans (hbx.mono HB2.out.size)); have HS3 := Aside0.mk (HS2.out.below hbx); clear hbx) | (go_at_call 13; (with_reducible refine (refused_calls 2 (by decide) (by decide) _).mono ?_); rintro e' x4 ⟨rfl, hbx⟩; have HB4 := Aside0.mk (HB3.out.trans (hbx.mono HB3.out.size)); have HS4 := Aside0.mk (HS3.out.below hbx); clear hbx) | (go_at_call 16; (with_reducible refine (HDN.out _).mono ?_); rintro e' x5 ⟨rfl, hbx⟩; have HB5 := Aside0.mk (HB4.out.trans (hbx.mono HB4.out.size)); have HS5 := Aside0.mk (HS4.out.below hbx); clear hbx) | (go_at_call 18; (with_reducible refine (HSpH.out _ HB5.out).mono ?_); rintro e' x6 ⟨rfl, hbx⟩; have HB6 := Aside0.mk (HB5.out.trans (hbx.mono HB5.out.size)); have HS6 := Aside0.mk (HS5.out.below hbx); clear hbx) | (go_at_call 14; (with_reducible refine (HEx.out _ HB6.out HS6.out).mono ?_); rintro e' x7 ⟨rfl, hbx⟩; have HB7 := Aside0.mk (HB6.out.trans (hbx.mono HB6.out.size)); have HS7 := Aside0.mk (HS6.out.below hbx); clear hbx) | (go_at_call 11; (with_reducible refine (HPB.out _).mono ?_); rintro e' wp ⟨rfl, rfl⟩) | (go_at_call 19; (with_reducible refine (HWn.out _).mono ?_); rintro e' ww ⟨rfl, hbx⟩; have HBw := Aside0.mk (HB7.out.trans (hbx.mono HB7.out.size)); have HSw := Aside0.mk (HS7.out.below hbx); clear hbx) | (go_at_call 18; (with_reducible refine (HSp0.out _).mono ?_); rintro e' ws ⟨rfl, hbx⟩; have HBs := Aside0.mk (HBw.out.trans (hbx.mono HBw.out.size)); have HSs := Aside0.mk (HSw.out.below hbx); clear hbx) | (go_at_call 13; (with_reducible refine (refused_calls 5 (by decide) (by decide) _).mono ?_); rintro e' wr5 ⟨rfl, hbx⟩; have HBr := Aside0.mk (HBs.out.trans (hbx.mono HBs.out.size)); have HSr := Aside0.mk (HSs.out.below hbx); clear hbx) | (go_at_call 14; (with_reducible refine (HEh.out _ HBr.out HSr.out).mono ?_); rintro e' we ⟨rfl, hbx⟩; have HBe := Aside0.mk (HBr.out.trans (hbx.mono HBr.out.size)); have HSe := Aside0.mk (HSr.out.below hbx); clear hbx) | (go_at_call 9; (with_reducible refine (H.out.opened _ HBe.out).mono ?_); rintro e' wo ⟨rfl, hbx⟩; have HBo := Aside0.mk (HBe.out.trans (hbx.mono HBe.out.size)); have HSo := Aside0.mk (HSe.out.below hbx); clear hbx))
                go_ret
                exact ⟨rfl, HBo.out⟩
              · have hbad' : hooksBad n hooks = false := by simpa using hbad
                rw [HPL.out, if_neg hbad] at HEx
                have HHk := Aside0.mk (HGoodI.out hbad')
                clear HBadI HGoodI HPL hC
                obtain ⟨D, hD⟩ : ∃ D, listOf n.toNat (hk n.toNat hooks (ident n.toNat) 0).1 = D := ⟨_, rfl⟩
                obtain ⟨lp, hlp⟩ : ∃ lp : Int, ((hk n.toNat hooks (ident n.toNat) 0).2 : Int) = lp := ⟨_, rfl⟩
                rw [hD, hlp] at HHk HEx
                clear hD hlp
                go_wp2_with (go_at_call 17; (with_reducible refine HHk.out.mono ?_); rintro e' x1 ⟨A', c2, rfl, hrd, hfa, hbx⟩; have HRD := Aside0.mk hrd; have HFA := Aside0.mk hfa; have HB1 := Aside0.mk (HB.out.trans (hbx.mono HB.out.size)); have HS1 := Aside0.mk (HS.out.below hbx); clear hbx hrd hfa)
                obtain ⟨hf1, hf2, hf3, hf4⟩ := HFA.out
                have HSpD := Aside0.mk (spaced_calls A' c2 D (by omega) (fun x hx => by have := hf2 x hx; omega) x1 HRD.out)
                have HDl := Aside0.mk (fun (W : World) => digits_all lp (by omega) (by omega) W)
                have hlenD : (lineOf (D.map itoaB)).size ≤ 22000 := by
                  have := line_len D (by omega) (fun x hx => by have := hf2 x hx; omega)
                  show (Lib.join _ _).toArray.size ≤ _
                  rw [List.size_toArray]
                  exact this
                have hlenL : (itoaB lp).size ≤ 17 := itoaB_size lp (by omega) (by omega)
                obtain ⟨sd, hsd⟩ : ∃ s, lineOf (D.map itoaB) = s := ⟨_, rfl⟩
                obtain ⟨sl, hsl⟩ : ∃ s, itoaB lp = s := ⟨_, rfl⟩
                rw [hsd] at hlenD HSpD HEx
                rw [hsl] at hlenL HDl HEx
                have hb1 : ∀ (W : World), (Op.stringOp .add sd ⟨#[32, 47, 32]⟩).run Tryz.prog W = .ok (.string (sd ++ ⟨#[32, 47, 32]⟩)) W := fun W => run_string_add_sum W _ _ (by show sd.size + 3 ≤ 9223372036854775807; omega)
                have hb2 : ∀ (W : World), (Op.stringOp .add (sd ++ ⟨#[32, 47, 32]⟩) sl).run Tryz.prog W = .ok (.string (sd ++ ⟨#[32, 47, 32]⟩ ++ sl)) W := fun W => run_string_add_sum W _ _ (by rw [ByteArray.size_append]; show sd.size + 3 + sl.size ≤ 9223372036854775807; omega)
                clear hsd hsl hf1 hf2 hf3 hf4
                obtain ⟨hw1, hw2, hw3, hw4, hw5⟩ := HWR.out
                go_wp2_with (first | (go_at_call 18; (with_reducible refine (HSpD.out).mono ?_); rintro e' x2 ⟨rfl, hbx⟩; have HB2 := Aside0.mk (HB1.out.trans (hbx.mono HB1.out.size)); have HS2 := Aside0.mk (HS1.out.below hbx); clear hbx) | (go_at_call 16; (with_reducible refine (HDl.out _).mono ?_); rintro e' x3 ⟨rfl, hbx⟩; have HB3 := Aside0.mk (HB2.out.trans (hbx.mono HB2.out.size)); have HS3 := Aside0.mk (HS2.out.below hbx); clear hbx) | (go_at_call 16; (with_reducible refine (HDN.out _).mono ?_); rintro e' x5 ⟨rfl, hbx⟩; have HB5 := Aside0.mk (HB3.out.trans (hbx.mono HB3.out.size)); have HS5 := Aside0.mk (HS3.out.below hbx); clear hbx) | (go_at_call 18; (with_reducible refine (HSpH.out _ HB5.out).mono ?_); rintro e' x6 ⟨rfl, hbx⟩; have HB6 := Aside0.mk (HB5.out.trans (hbx.mono HB5.out.size)); have HS6 := Aside0.mk (HS5.out.below hbx); clear hbx) | (go_at_call 14; (with_reducible refine (HEx.out _ HB6.out HS6.out).mono ?_); rintro e' x7 ⟨rfl, hbx⟩; have HB7 := Aside0.mk (HB6.out.trans (hbx.mono HB6.out.size)); have HS7 := Aside0.mk (HS6.out.below hbx); clear hbx) | (go_at_call 11; (with_reducible refine (HPB.out _).mono ?_); rintro e' wp ⟨rfl, rfl⟩) | (go_at_call 19; (with_reducible refine (HWn.out _).mono ?_); rintro e' ww ⟨rfl, hbx⟩; have HBw := Aside0.mk (HB7.out.trans (hbx.mono HB7.out.size)); have HSw := Aside0.mk (HS7.out.below hbx); clear hbx) | (go_at_call 18; (with_reducible refine (HSp0.out _).mono ?_); rintro e' ws ⟨rfl, hbx⟩; have HBs := Aside0.mk (HBw.out.trans (hbx.mono HBw.out.size)); have HSs := Aside0.mk (HSw.out.below hbx); clear hbx) | (go_at_call 13; (with_reducible refine (refused_calls 5 (by decide) (by decide) _).mono ?_); rintro e' wr5 ⟨rfl, hbx⟩; have HBr := Aside0.mk (HBs.out.trans (hbx.mono HBs.out.size)); have HSr := Aside0.mk (HSs.out.below hbx); clear hbx) | (go_at_call 14; (with_reducible refine (HEh.out _ HBr.out HSr.out).mono ?_); rintro e' we ⟨rfl, hbx⟩; have HBe := Aside0.mk (HBr.out.trans (hbx.mono HBr.out.size)); have HSe := Aside0.mk (HSr.out.below hbx); clear hbx) | (go_at_call 9; (with_reducible refine (H.out.opened _ HBe.out).mono ?_); rintro e' wo ⟨rfl, hbx⟩; have HBo := Aside0.mk (HBe.out.trans (hbx.mono HBe.out.size)); have HSo := Aside0.mk (HSe.out.below hbx); clear hbx))
                go_ret
                exact ⟨rfl, HBo.out⟩
        clear a5
        have HIu := HIn.out.upper
        have HIl := HIn.out.lower
        have HU := Aside0.mk (plain_calls upper (by omega) W)
        have HL := Aside0.mk (plain_calls lower (by omega) W)
        cases hpu : plainB upper
        · rw [hpu] at HU
          go_wp2_with (go_at_call 11; (with_reducible refine HU.out.mono ?_); rintro e' w4 ⟨rfl, rfl⟩)
          apply HK5
          · exact HB
          · exact HS
        · rw [hpu] at HU
          cases hpl : plainB lower
          · rw [hpl] at HL
            go_wp2_with (first | (go_at_call 11; (with_reducible refine HU.out.mono ?_); rintro e' w4 ⟨rfl, rfl⟩) | (go_at_call 11; (with_reducible refine HL.out.mono ?_); rintro e' w4 ⟨rfl, rfl⟩))
            apply HK5
            · exact HB
            · exact HS
          · rw [hpl] at HL
            have hwu := (plainB_iff upper).1 hpu
            have hwl := (plainB_iff lower).1 hpl
            have HEx := Aside0.mk (fun (W : World) (hb : Below w.heap.size w W) (hs : ShopAt W p sh0) => exec_roads upper lower hwu hwl (by omega) (by omega) r e H.out.r0 H.out.r1 H.out.e0 H.out.e1 H.out.roads W (H.out.glob.below hb) p sh0 hs)
            rw [roads_line] at HEx
            have hadd1 : ∀ (W : World), (Op.stringOp .add ⟨#[114, 111, 97, 100, 115, 32]⟩ upper).run Tryz.prog W = .ok (.string (⟨#[114, 111, 97, 100, 115, 32]⟩ ++ upper)) W := fun W => run_string_add_sum W _ _ (by show 6 + upper.size ≤ 9223372036854775807; omega)
            have hadd2 : ∀ (W : World), (Op.stringOp .add (⟨#[114, 111, 97, 100, 115, 32]⟩ ++ upper) ⟨#[32]⟩).run Tryz.prog W = .ok (.string (⟨#[114, 111, 97, 100, 115, 32]⟩ ++ upper ++ ⟨#[32]⟩)) W := fun W => run_string_add_sum W _ _ (by rw [ByteArray.size_append]; show 6 + upper.size + 1 ≤ 9223372036854775807; omega)
            have hadd3 : ∀ (W : World), (Op.stringOp .add (⟨#[114, 111, 97, 100, 115, 32]⟩ ++ upper ++ ⟨#[32]⟩) lower).run Tryz.prog W = .ok (.string (⟨#[114, 111, 97, 100, 115, 32]⟩ ++ upper ++ ⟨#[32]⟩ ++ lower)) W := fun W => run_string_add_sum W _ _ (by rw [ByteArray.size_append, ByteArray.size_append]; show 6 + upper.size + 1 + lower.size ≤ 9223372036854775807; omega)
            have r0 := H.out.r0
            have r1 := H.out.r1
            have e0 := H.out.e0
            have e1 := H.out.e1
            unfold roadsF at HEx
            clear hwu hwl
            by_cases h1 : e = 0
            · rw [if_pos h1] at HEx
              have dd2 : (e != 0) = false := by rw [h1]; rfl
              have H1 := Aside0.mk h1
              clear h1
              go_wp2_with (first | (go_at_call 11; (with_reducible refine HU.out.mono ?_); rintro e' w4 ⟨rfl, rfl⟩) | (go_at_call 11; (with_reducible refine HL.out.mono ?_); rintro e' w4 ⟨rfl, rfl⟩) | (go_at_call 15; refine (H.out.roads _).mono ?_; rintro e' w5 ⟨rfl, hb5⟩; have HB5 := Aside0.mk (HB.out.trans (hb5.mono HB.out.size)); have HT5 := Aside0.mk (HS.out.below hb5); clear hb5) | (go_at_call 16; refine (digits_all r (by omega) (by omega) _).mono ?_; rintro e' w6 ⟨rfl, hb6⟩; have HB6 := Aside0.mk (HB5.out.trans (hb6.mono HB5.out.size)); have HT6 := Aside0.mk (HT5.out.below hb6); clear hb6) | (go_at_call 14; refine (HEx.out _ HB6.out HT6.out).mono ?_; rintro e' w8 ⟨rfl, hb8⟩; have HB8 := Aside0.mk (HB6.out.trans (hb8.mono HB6.out.size)); have HT8 := Aside0.mk (HT6.out.below hb8); clear hb8))
              apply HK5
              · exact HB8
              · exact HT8
            · rw [if_neg h1] at HEx
              have dd2 : (e != 0) = true := by simpa using h1
              go_wp2_with (first | (go_at_call 11; (with_reducible refine HU.out.mono ?_); rintro e' w4 ⟨rfl, rfl⟩) | (go_at_call 11; (with_reducible refine HL.out.mono ?_); rintro e' w4 ⟨rfl, rfl⟩) | (go_at_call 15; refine (H.out.roads _).mono ?_; rintro e' w5 ⟨rfl, hb5⟩; have HB5 := Aside0.mk (HB.out.trans (hb5.mono HB.out.size)); have HT5 := Aside0.mk (HS.out.below hb5); clear hb5) | (go_at_call 16; refine (digits_all r (by omega) (by omega) _).mono ?_; rintro e' w6 ⟨rfl, hb6⟩; have HB6 := Aside0.mk (HB5.out.trans (hb6.mono HB5.out.size)); have HT6 := Aside0.mk (HT5.out.below hb6); clear hb6) | (go_at_call 13; refine (refused_calls e (by omega) (by omega) _).mono ?_; rintro e' w7 ⟨rfl, hb7⟩; have HB7 := Aside0.mk (HB6.out.trans (hb7.mono HB6.out.size)); have HT7 := Aside0.mk (HT6.out.below hb7); clear hb7) | (go_at_call 14; refine (HEx.out _ HB7.out HT7.out).mono ?_; rintro e' w8 ⟨rfl, hb8⟩; have HB8 := Aside0.mk (HB7.out.trans (hb8.mono HB7.out.size)); have HT8 := Aside0.mk (HT7.out.below hb8); clear hb8))
              apply HK5
              · exact HB8
              · exact HT8
      clear a2
      have HIw := HIn.out.word
      have HW := Aside0.mk (plain_calls word (by omega) w3)
      cases hp : plainB word
      · rw [hp] at HW
        go_wp2_with (go_at_call 11; refine HW.out.mono ?_; rintro e' w4 ⟨rfl, rfl⟩)
        apply HK2
        · exact HB3
        · exact HT3
      · rw [hp] at HW
        have hwb := (plainB_iff word).1 hp
        have HEx := Aside0.mk (fun (W : World) (hb : Below w.heap.size w W) (hs : ShopAt W p sh0) => exec_tell word hwb (by omega) W (H.out.glob.below hb) p sh0 hs)
        rw [tell_line] at HEx
        have HM := Aside0.mk (make_calls word w3 (H.out.glob.below HB3.out).ops)
        obtain ⟨r0, r1⟩ := makeF_range word
        have hadd : ∀ (W : World), (Op.stringOp .add ⟨#[116, 101, 108, 108, 32]⟩ word).run Tryz.prog W = .ok (.string (⟨#[116, 101, 108, 108, 32]⟩ ++ word)) W := fun W => run_string_add_sum W _ _ (by show 5 + word.size ≤ 9223372036854775807; omega)
        unfold tellF at HEx
        obtain ⟨S, hS⟩ : ∃ S, (makeF word).1 = S := ⟨_, rfl⟩
        obtain ⟨k, hk⟩ : ∃ k, (makeF word).2 = k := ⟨_, rfl⟩
        rw [hS, hk] at HM HEx
        rw [hk] at r0 r1
        clear hS hk hwb
        by_cases h1 : k = 0
        · subst h1
          rw [if_pos rfl] at HEx
          by_cases h2 : S.size ≤ 200
          · rw [if_pos h2] at HEx
            have dd : decide (200 < (S.size : Int)) = false := decide_eq_false (by omega)
            go_wp2_with (first | (go_at_call 11; refine HW.out.mono ?_; rintro e' w4 ⟨rfl, rfl⟩) | (go_at_call 12; refine HM.out.mono ?_; rintro e' w5 ⟨rfl, hb5⟩; have HB5 := Aside0.mk (HB3.out.trans (hb5.mono HB3.out.size)); have HT5 := Aside0.mk (HT3.out.below hb5); clear hb5) | (go_at_call 14; refine (HEx.out _ HB5.out HT5.out).mono ?_; rintro e' w7 ⟨rfl, hb7⟩; have HB7 := Aside0.mk (HB5.out.trans (hb7.mono HB5.out.size)); have HT7 := Aside0.mk (HT5.out.below hb7); clear hb7))
            apply HK2
            · exact HB7
            · exact HT7
          · rw [if_neg h2] at HEx
            have dd : decide (200 < (S.size : Int)) = true := decide_eq_true (by omega)
            go_wp2_with (first | (go_at_call 11; refine HW.out.mono ?_; rintro e' w4 ⟨rfl, rfl⟩) | (go_at_call 12; refine HM.out.mono ?_; rintro e' w5 ⟨rfl, hb5⟩; have HB5 := Aside0.mk (HB3.out.trans (hb5.mono HB3.out.size)); have HT5 := Aside0.mk (HT3.out.below hb5); clear hb5) | (go_at_call 13; refine (refused_calls _ (by omega) (by omega) _).mono ?_; rintro e' w6 ⟨rfl, hb6⟩; have HB6 := Aside0.mk (HB5.out.trans (hb6.mono HB5.out.size)); have HT6 := Aside0.mk (HT5.out.below hb6); clear hb6) | (go_at_call 14; refine (HEx.out _ HB6.out HT6.out).mono ?_; rintro e' w7 ⟨rfl, hb7⟩; have HB7 := Aside0.mk (HB6.out.trans (hb7.mono HB6.out.size)); have HT7 := Aside0.mk (HT6.out.below hb7); clear hb7))
            apply HK2
            · exact HB7
            · exact HT7
        · rw [if_neg h1] at HEx
          have dd : (k == 0) = false := by simpa using h1
          have dd2 : (k != 0) = true := by simpa using h1
          go_wp2_with (first | (go_at_call 11; refine HW.out.mono ?_; rintro e' w4 ⟨rfl, rfl⟩) | (go_at_call 12; refine HM.out.mono ?_; rintro e' w5 ⟨rfl, hb5⟩; have HB5 := Aside0.mk (HB3.out.trans (hb5.mono HB3.out.size)); have HT5 := Aside0.mk (HT3.out.below hb5); clear hb5) | (go_at_call 13; refine (refused_calls _ (by omega) (by omega) _).mono ?_; rintro e' w6 ⟨rfl, hb6⟩; have HB6 := Aside0.mk (HB5.out.trans (hb6.mono HB5.out.size)); have HT6 := Aside0.mk (HT5.out.below hb6); clear hb6) | (go_at_call 14; refine (HEx.out _ HB6.out HT6.out).mono ?_; rintro e' w7 ⟨rfl, hb7⟩; have HB7 := Aside0.mk (HB6.out.trans (hb7.mono HB6.out.size)); have HT7 := Aside0.mk (HT6.out.below hb7); clear hb7))
          apply HK2
          · exact HB7
          · exact HT7
end Go.Proofs.YtldohjlcckbfaaaGreatDoor.Hand
