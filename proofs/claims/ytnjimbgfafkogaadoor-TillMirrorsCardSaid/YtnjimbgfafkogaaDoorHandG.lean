import Derived.Test.YtnjimbgfafkogaaDoorProg
import Derived.Below
import Derived.Deep.Draws
import Derived.Deep.AppendLies
import Derived.Maps.AppendAt
import Derived.OwnWalk
import Derived.Laws.BytesArg
import Derived.Laws.MakeOwn
import Derived.Laws.OwnMore
import Derived.Deep.OwnRows
import Derived.Tactics
import Derived.Lib.ConvBytes
import Derived.Laws.Slices
import Derived.WalkKit
import Derived.KernelRfl
import Derived.RowKit3
import Derived.Deep.LoopGhost
import Derived.Deep.QuietTactic
import Derived.BigQuiet
import Derived.WideLaws
import Derived.Deep.DeepCutAuto
import Derived.Deep.CutBlock
import Derived.Deep.RegionHeld3
import Derived.Laws.Rows
import Derived.Lib.AppendStr
import Derived.ArgAppend
import Derived.Laws.IdiomCopy
import Derived.OrdersHeld
import Derived.Laws.BitsLemmas
import Derived.RowKit
import Derived.Test.YtnjimbgfafkogaaDoorWWords
import Derived.Test.YtnjimbgfafkogaaDoorWLast
import Derived.Test.YtnjimbgfafkogaaDoorWTab
import Derived.Test.YtnjimbgfafkogaaDoorWFour
import Derived.Test.YtnjimbgfafkogaaDoorWQPut
import Derived.Test.YtnjimbgfafkogaaDoorWApart
import Derived.Test.YtnjimbgfafkogaaDoorWArr
import Derived.Test.YtnjimbgfafkogaaDoorWZeros
import Derived.Test.YtnjimbgfafkogaaDoorWFoot
import Derived.Test.YtnjimbgfafkogaaDoorWKept
import Derived.Test.YtnjimbgfafkogaaDoorWShare
import Derived.Test.YtnjimbgfafkogaaDoorWN
import Derived.Test.YtnjimbgfafkogaaDoorWFootNe
import Derived.Test.YtnjimbgfafkogaaDoorWAt
import Derived.Test.YtnjimbgfafkogaaDoorWEqStruct
import Derived.Test.YtnjimbgfafkogaaDoorWRepsOne
import Derived.Test.YtnjimbgfafkogaaDoorWInv
import Derived.Test.YtnjimbgfafkogaaDoorWInvWords
import Derived.Test.YtnjimbgfafkogaaDoorWGuard
import Derived.Test.YtnjimbgfafkogaaDoorWNEv
import Derived.Test.YtnjimbgfafkogaaDoorWMore
import Derived.Test.YtnjimbgfafkogaaDoorHandC
import Derived.Test.YtnjimbgfafkogaaDoorBase1
import Derived.Test.YtnjimbgfafkogaaDoorPrint2
import Derived.Laws.IdiomStrings
import Derived.Laws.IdiomCopy
namespace Go.Proofs.YtnjimbgfafkogaaDoor.Hand
open Go.RowKit Go.Proofs.YtnjimbgfafkogaaDoorW.PrintWords Go.Proofs.YtnjimbgfafkogaaDoorW.PrintLast Go.Proofs.YtnjimbgfafkogaaDoorW.PrintMore
set_option linter.unusedVariables false
set_option linter.unusedSimpArgs false

/-! The reference's Mirror: bytes out of a string, appended to. -/
open Go.Proofs.YtnjimbgfafkogaaDoor.Pre Go.Proofs.YtnjimbgfafkogaaDoor.Base Go.Proofs.YtnjimbgfafkogaaDoor.Print

/-- A slice of bytes that lies in memory of the call's own: read, and free up to its capacity. -/
structure ARel (w wr : World) (g c : Nat) (xs : List Int) : Prop where
  le : xs.length ≤ c
  far : w.heap.size ≤ g
  lt : g < wr.heap.size
  cell : ∀ j, j < xs.length → wr.cell? ⟨g, j, none⟩ = some (.int .u8 (xs.getD j 0))
  free : ∀ j, j < c → (wr.cell? ⟨g, j, none⟩).isSome = true ∧ wr.frozen? ⟨g, j, none⟩ = false
  bel : Below w.heap.size w wr

theorem ARel.start {w w1 : World} (s : ByteArray) (cap : Nat) (hb : Below w.heap.size w w1) (hc : s.size ≤ cap) :
    ARel w (w1.alloc (.cells (bytesRow s cap) 5 ((bytesRow s cap).size, (bytesRow s cap).size + 1))) w1.heap.size cap (bytesOf s) := by
  have hx : (w1.alloc (.cells (bytesRow s cap) 5 ((bytesRow s cap).size, (bytesRow s cap).size + 1))).heap[w1.heap.size]? = some (.cells (bytesRow s cap) 5 ((bytesRow s cap).size, (bytesRow s cap).size + 1)) := by
    show (w1.heap.push _)[w1.heap.size]? = _
    simp
  have hsz : (bytesRow s cap).size = cap := by
    have h1 : s.data.size = s.size := rfl
    simp [bytesRow]; omega
  refine ⟨by rw [bytesOf_length]; exact hc, hb.size, by simp, fun j hj => ?_, fun j hj => ?_, below_alloc hb _⟩
  · rw [bytesOf_length] at hj
    simp only [World.cell?, hx]
    simpa using bytesRow_cell s cap j hj
  · constructor
    · simp only [World.cell?, hx]
      simp
      omega
    · simp only [World.frozen?, hx]
      simp
      omega
theorem ARel.alloc {w wr : World} {g c : Nat} {xs : List Int} (h : ARel w wr g c xs) (o : Obj) : ARel w (wr.alloc o) g c xs := by
  have hh : (wr.alloc o).heap[g]? = wr.heap[g]? := Below.heap_alloc wr o g h.lt
  have hc : ∀ j, (wr.alloc o).cell? ⟨g, j, none⟩ = wr.cell? ⟨g, j, none⟩ := fun j => by simp only [World.cell?, hh]
  have hf : ∀ j, (wr.alloc o).frozen? ⟨g, j, none⟩ = wr.frozen? ⟨g, j, none⟩ := fun j => by simp only [World.frozen?, hh]
  exact ⟨h.le, h.far, by have := h.lt; simp; omega, fun j hj => by rw [hc]; exact h.cell j hj, fun j hj => by rw [hc, hf]; exact h.free j hj, below_alloc h.bel o⟩
theorem ARel.room {w wr : World} {g c : Nat} {xs : List Int} (h : ARel w wr g c xs) (x : Int) (hr : xs.length + 1 ≤ c) : ARel w (wr.setCells g xs.length [.int .u8 x]) g c (xs ++ [x]) := by
  have hin := World.cell?_setCells_in g [Value.int .u8 x] xs.length wr (fun j hj => by
    have : j = 0 := by simpa using hj
    subst this; exact (h.free xs.length (by omega)).1) 0 (by simp)
  have hout : ∀ j, j ≠ xs.length → (wr.setCells g xs.length [Value.int .u8 x]).cell? ⟨g, j, none⟩ = wr.cell? ⟨g, j, none⟩ := fun j hj =>
    World.cell?_setCells_out g _ _ wr ⟨g, j, none⟩ (fun _ _ => by show j < xs.length ∨ xs.length + 1 ≤ j; omega)
  refine ⟨by simp; omega, h.far, ?_, fun j hj => ?_, fun j hj => ⟨?_, ?_⟩, ?_⟩
  · show g < (wr.setCell _ _).heap.size
    have := h.lt
    unfold World.setCell; simpa using this
  · by_cases e : j = xs.length
    · subst e
      rw [Nat.add_zero] at hin
      rw [hin]; simp
    · have hj2 : j < xs.length := by simp at hj; omega
      rw [hout j e, h.cell j hj2]
      congr 2
      simp [List.getD_eq_getElem?_getD, List.getElem?_append_left hj2]
  · by_cases e : j = xs.length
    · subst e
      rw [Nat.add_zero] at hin
      rw [hin]; rfl
    · rw [hout j e]; exact (h.free j hj).1
  · rw [World.frozen?_setCells]; exact (h.free j hj).2
  · exact h.bel.setCell h.far _
theorem ARel.grown {w wr w1 : World} {B : Nat} {xs : List Int} {v : Value} (h : Below w.heap.size w wr) (hB : w.heap.size ≤ B) (ho : w1.ownsRow B 5 1 v xs.length (nums .u8 xs)) (hg : wr.grownBy w1 none) (hn : 0 < xs.length) : ∃ g c, v = .slice (some ⟨g, 0, none⟩) xs.length c ∧ ARel w w1 g c xs := by
  obtain ⟨hl, ⟨rfl, h0⟩ | ⟨g, c, cur, rfl, hb, hcur, hle, hm, hsz, htk⟩⟩ := ho
  · omega
  · refine ⟨g, c, rfl, hle, Nat.le_trans hB hb, (Array.getElem?_eq_some_iff.1 hcur).1, fun j hj => ?_, fun j hj => ⟨?_, ?_⟩, pw_below_grown h none h.size hg (fun k hk => by cases hk)⟩
    · have h1 : cur[j]? = (cur.toList.take (xs.length * 1))[j]? := by rw [List.getElem?_take_of_lt (by omega)]; simp
      simp only [World.cell?, hcur]
      rw [htk] at h1
      simp [h1, nums, List.getD_eq_getElem?_getD, List.getElem?_eq_getElem hj]
    · simp only [World.cell?, hcur]
      simp; omega
    · simp only [World.frozen?, hcur]
      simp
theorem ARel.C {w wr : World} {g c : Nat} {xs : List Int} (h : ARel w wr g c xs) (hm : xs.length ≤ 9223372036854775807) : Kd.C (Kd.int .u8) wr (some ⟨g, 0, none⟩) xs.length xs := by
  refine Kd.C_of_reads (enc := Value.int .u8) (d := 0) ⟨rfl, hm, fun hn => ⟨_, rfl, fun j hj => ?_⟩⟩
  have ha : (⟨g, 0, none⟩ : Addr).add j = ⟨g, j, none⟩ := add_plain g j
  rw [ha]
  exact h.cell j hj

/-- The first place of a number, d places from i on; -1: none. -/
def rfi (x : Int) (b : List Int) : Nat → Nat → Int
  | _, 0 => -1
  | i, d + 1 => if rd b (i : Int) = x then (i : Int) else rfi x b (i + 1) d
def turnB (l : List Int) : List Int := l.map fun c => if c = 43 then 45 else 43
def pomaderef09_Mirror.f (k : Nat) (s : ByteArray) (level : Int) : Option (ByteArray × Int) := (pomaderef09_Walk.f k s).bind fun e => if e = 0 then (pomaderef09_balances.f k s).bind fun b => if b.length = s.size + 1 ∧ s.size ≤ 60 then (if rfi level b 0 (s.size + 1) < 0 then some (⟨#[]⟩, 10) else some (strOfNums ((bytesOf s).take (rfi level b 0 (s.size + 1)).toNat ++ turnB ((bytesOf s).drop (rfi level b 0 (s.size + 1)).toNat)), 0)) else none else some (⟨#[]⟩, e)
theorem pomaderef09_Mirror.mono : ∀ a0 a1 k, LeO (pomaderef09_Mirror.f k a0 a1) (pomaderef09_Mirror.f (k + 1) a0 a1) := fun a0 a1 k =>
  LeO.bind (pomaderef09_Walk.mono _ _) fun _ => LeO.ite (LeO.bind (pomaderef09_balances.mono _ _) fun _ => LeO.refl _) (LeO.refl _)
theorem bytesOf_extract (s : ByteArray) (i : Nat) (h : i ≤ s.size) : bytesOf (s.extract 0 i) = (bytesOf s).take i := by
  unfold bytesOf
  rw [← List.map_take]
  congr 1
  rw [ByteArray.data_extract]
  simp

set_option maxHeartbeats 2000000 in
set_option maxRecDepth 100000 in
theorem pomaderef09_Mirror.calls (k : Nat) (a0 : ByteArray) (a1 : Int) (r1 : ByteArray) (r2 : Int) (w : World) (h : pomaderef09_Mirror.f k a0 a1 = some (r1, r2)) :
    Calls Tryd.prog 27 #[.string a0, .int .i64 a1] w fun e w' => e = .returned (.tuple #[.string r1, .int .i64 r2]) ∧ Below w.heap.size w w' := by
  have info5 : (Tryd.prog.info? 5).map (fun i => (i.zero, i.size, i.bytes)) = some (some (.int .u8 0), 1, 1) := by kernel_rfl
  obtain ⟨i0, hi, hz0, hz1, hz2⟩ := info_parts info5
  unfold pomaderef09_Mirror.f at h
  obtain ⟨e, he, h⟩ := Option.bind_eq_some_iff.1 h
  have HE := Aside0.mk he
  by_cases h0 : e = 0
  · rw [if_pos h0] at h
    subst h0
    obtain ⟨b, hb, h⟩ := Option.bind_eq_some_iff.1 h
    by_cases hg : b.length = a0.size + 1 ∧ a0.size ≤ 60
    · rw [if_pos hg] at h
      have HB := Aside0.mk hb
      have HX := Aside0.mk h
      have HG := Aside0.mk hg.1
      have H60 := hg.2
      clear he hb hg h
      go_enter Tryd.func27, Tryd.ntmps27
      go_wp2_with (first | (go_at_call 57; refine (pomaderef09_Walk.calls k a0 0 _ HE.out).mono ?_; rintro e w1 ⟨rfl, ⟨nd, rfl⟩⟩) | (go_at_call 58; refine (pomaderef09_balances.calls k a0 b _ HB.out).mono ?_; rintro e w2 ⟨v2, rfl, ho2, hb2⟩; obtain ⟨A2, c2, rfl⟩ := Kd.R_slice ho2))
      have HC := Aside0.mk (Kd.R_reads' ho2).2.2
      have HBel := Aside0.mk ((pw_below_drewN (Below.refl w.heap.size w) nd).trans hb2)
      clear ho2 hb2 HE HB
      obtain ⟨b0, rfl, _⟩ := Kd.at_int HC.out 0 (by omega) (by have := HG.out; omega)
      go_loopg [8] (a0.size + 1) (fun q v8 wr => ∃ (i : Nat), wr = w2 ∧ v8 = .int .i64 i ∧ i + q = a0.size + 1 ∧ Aside0 (rfi a1 b i q = rfi a1 b 0 (a0.size + 1)))
      case atStart => exact ⟨0, rfl, rfl, by omega, ⟨rfl⟩⟩
      case round =>
        obtain ⟨i, rfl, rfl, hiq, HR⟩ := hrel
        by_cases hlt : i ≤ a0.size
        · obtain ⟨q, rfl⟩ : ∃ q, gk = q + 1 := ⟨gk - 1, by omega⟩
          obtain ⟨ad, e1, hx0⟩ := Kd.at_int HC.out (i : Int) (by omega) (by have := HG.out; omega)
          cases e1
          rw [Int.toNat_natCast] at hx0
          have hle : decide ((i : Int) ≤ (a0.size : Int)) = true := decide_eq_true (by omega)
          have p0 : (i : Int) < (b.length : Int) := by have := HG.out; omega
          have hr := HR.out
          rw [rfi] at hr
          by_cases c0 : rd b (i : Int) = a1
          · rw [if_pos c0] at hr
            have hc : (rd b (i : Int) != a1) = false := bne_eq_false_iff_eq.2 c0
            have hx := HX.out
            rw [← hr, if_neg (by omega), Int.toNat_natCast] at hx
            simp only [Option.some.injEq, Prod.mk.injEq] at hx
            obtain ⟨hres, rfl⟩ := hx
            have HRes := Aside0.mk hres
            clear hr HR c0 hres HX
            have hcv := fun w s => run_bytes_of_string (P := Tryd.prog) w 9 62 5 s Tryd.underlying9 Tryd.underlying62 Tryd.underlying5
            have hex : (a0.extract 0 i).size = i := by rw [← bytesOf_length, bytesOf_extract a0 i hlt, List.length_take, bytesOf_length]; omega
            have hi2 : (i : Int) ≤ (a0.size : Int) := by omega
            go_wp2
            have HA0 := ARel.start (w := w) (w1 := wr.drew) (a0.extract 0 i) (grownCap wr (a0.extract 0 i).size 0 5) (below_drew HBel.out) (grownCap_ge _ _ _ _)
            have HA : Aside0 (ARel w (wr.alloc (.cells (bytesRow (a0.extract 0 i) (grownCap wr i 0 5)) 5 ((bytesRow (a0.extract 0 i) (grownCap wr i 0 5)).size, (bytesRow (a0.extract 0 i) (grownCap wr i 0 5)).size + 1))).drew wr.heap.size (grownCap wr i 0 5) ((bytesOf a0).take i)) := ⟨by
              rw [hex, bytesOf_extract a0 i hlt] at HA0
              exact HA0⟩
            obtain ⟨cap, hcap⟩ : ∃ cap, grownCap wr i 0 5 = cap := ⟨_, rfl⟩
            rw [hcap] at HA ⊢
            clear HA0 hcap hcv
            go_loopg [9, 10] (a0.size - i) (fun q v9 v10 wi => ∃ (j : Nat) (xs : List Int) (g c : Nat), v10 = .int .i64 j ∧ v9 = .slice (some ⟨g, 0, none⟩) xs.length c ∧ j + q = a0.size ∧ xs.length = j ∧ Aside0 (strOfNums (xs ++ turnB ((bytesOf a0).drop j)) = r1) ∧ Aside0 (ARel w wi g c xs))
            case atStart =>
              have hl : ((bytesOf a0).take i).length = i := by rw [List.length_take, bytesOf_length]; omega
              exact ⟨i, (bytesOf a0).take i, wr.heap.size, cap, rfl, by rw [hl], by omega, hl, HRes, HA⟩
            case round =>
              clear HA HRes
              obtain ⟨j, xs, g, c, rfl, rfl, hjq, rfl, HRes, HA⟩ := hrel
              by_cases hjl : xs.length < a0.size
              · obtain ⟨q, rfl⟩ : ∃ q, gk = q + 1 := ⟨gk - 1, by omega⟩
                have hd : decide ((xs.length : Int) < (a0.size : Int)) = true := decide_eq_true (by omega)
                have hj2 : (xs.length : Int) < (a0.size : Int) := by omega
                have hbt : ∀ h : xs.length < a0.size, ((a0[xs.length]'h).toNat : Int) = bt a0 (xs.length : Int) := fun h => by simp [bt, h]
                have hres := HRes.out
                have hdr : (bytesOf a0).drop xs.length = bt a0 (xs.length : Int) :: (bytesOf a0).drop (xs.length + 1) := by
                  have hlt2 : xs.length < (bytesOf a0).length := by rw [bytesOf_length]; exact hjl
                  rw [List.drop_eq_getElem_cons hlt2, ← rd_bytesOf]
                  congr 1
                  simp [rd, List.getD_eq_getElem?_getD, List.getElem?_eq_getElem hlt2]
                rw [hdr, turnB, List.map_cons, ← turnB] at hres
                clear hdr
                by_cases c0 : bt a0 (xs.length : Int) = 43
                · rw [if_pos c0] at hres
                  have hc : (bt a0 (xs.length : Int) == 43) = true := beq_iff_eq.2 c0
                  have HR2 : Aside0 (strOfNums ((xs ++ [45]) ++ turnB ((bytesOf a0).drop (xs.length + 1))) = r1) := ⟨by rw [← hres, List.append_assoc]; rfl⟩
                  clear c0 hres HRes
                  go_wp2_with (at_builtin; refine wpList_append_arg _ rfl _ _ 62 rfl 5 i0 (.int .u8 0) 1 1 Tryd.underlying62 hi hz0 hz1 hz2 rfl (by decide) g 0 xs.length c (nums .u8 xs) rfl (by simp [nums_length]) ?olds ⟨wr.heap.size, 0, none⟩ 1 1 [.int .u8 45] rfl rfl ?c1 ?c2 ?spare ?maxLen ?bytes ?room ?grow)
                  case olds =>
                    intro jj u hu
                    have hjj : jj < xs.length := by
                      have := (List.getElem?_eq_some_iff.1 hu).1
                      rwa [nums_length] at this
                    rw [Nat.zero_add, (HA.out.alloc _).cell jj hjj, ← hu]
                    simp [nums, List.getD_eq_getElem?_getD, List.getElem?_eq_getElem hjj]
                  case c1 => exact cell_one_new _ _ _
                  case c2 => intro u hu; simp at hu; subst hu; rfl
                  case spare =>
                    intro hr jj hjj
                    have : jj = 0 := by simpa using hjj
                    subst this
                    have := (HA.out.alloc (.cells #[.int .u8 45] 5)).free xs.length (by omega)
                    simpa using this
                  case maxLen => unfold maxLen; omega
                  case bytes => omega
                  case room =>
                    intro hr
                    have HA2 := Aside0.mk ((HA.out.alloc (.cells #[.int .u8 45] 5)).room 45 hr)
                    have hl1 : xs.length + 1 = (xs ++ [45]).length := by simp
                    go_wp2
                    go_roundg q
                    case measure => omega
                    case rel =>
                      exact ⟨xs.length + 1, xs ++ [45], g, c, by rw [Int.natCast_succ], by rw [hl1], by omega, by simp, HR2, HA2⟩
                  case grow =>
                    intro hr v' w' ho hg
                    obtain ⟨g', c', rfl, hA⟩ := ARel.grown (B := wr.heap.size + 1) (xs := xs ++ [45]) (HA.out.alloc (.cells #[.int .u8 45] 5)).bel (by have := HA.out.bel.size; omega) (by rw [nums_append, List.length_append]; exact ho) hg (by simp)
                    have HA2 := Aside0.mk hA
                    clear hA ho hg
                    go_wp2
                    go_roundg q
                    case measure => omega
                    case rel => exact ⟨xs.length + 1, xs ++ [45], g', c', by rw [Int.natCast_succ], rfl, by omega, by simp, HR2, HA2⟩
                · rw [if_neg c0] at hres
                  have hc : (bt a0 (xs.length : Int) == 43) = false := beq_eq_false_iff_ne.2 c0
                  have HR2 : Aside0 (strOfNums ((xs ++ [43]) ++ turnB ((bytesOf a0).drop (xs.length + 1))) = r1) := ⟨by rw [← hres, List.append_assoc]; rfl⟩
                  clear c0 hres HRes
                  go_wp2_with (at_builtin; refine wpList_append_arg _ rfl _ _ 62 rfl 5 i0 (.int .u8 0) 1 1 Tryd.underlying62 hi hz0 hz1 hz2 rfl (by decide) g 0 xs.length c (nums .u8 xs) rfl (by simp [nums_length]) ?olds ⟨wr.heap.size, 0, none⟩ 1 1 [.int .u8 43] rfl rfl ?c1 ?c2 ?spare ?maxLen ?bytes ?room ?grow)
                  case olds =>
                    intro jj u hu
                    have hjj : jj < xs.length := by
                      have := (List.getElem?_eq_some_iff.1 hu).1
                      rwa [nums_length] at this
                    rw [Nat.zero_add, (HA.out.alloc _).cell jj hjj, ← hu]
                    simp [nums, List.getD_eq_getElem?_getD, List.getElem?_eq_getElem hjj]
                  case c1 => exact cell_one_new _ _ _
                  case c2 => intro u hu; simp at hu; subst hu; rfl
                  case spare =>
                    intro hr jj hjj
                    have : jj = 0 := by simpa using hjj
                    subst this
                    have := (HA.out.alloc (.cells #[.int .u8 43] 5)).free xs.length (by omega)
                    simpa using this
                  case maxLen => unfold maxLen; omega
                  case bytes => omega
                  case room =>
                    intro hr
                    have HA2 := Aside0.mk ((HA.out.alloc (.cells #[.int .u8 43] 5)).room 43 hr)
                    have hl1 : xs.length + 1 = (xs ++ [43]).length := by simp
                    go_wp2
                    go_roundg q
                    case measure => omega
                    case rel =>
                      exact ⟨xs.length + 1, xs ++ [43], g, c, by rw [Int.natCast_succ], by rw [hl1], by omega, by simp, HR2, HA2⟩
                  case grow =>
                    intro hr v' w' ho hg
                    obtain ⟨g', c', rfl, hA⟩ := ARel.grown (B := wr.heap.size + 1) (xs := xs ++ [43]) (HA.out.alloc (.cells #[.int .u8 43] 5)).bel (by have := HA.out.bel.size; omega) (by rw [nums_append, List.length_append]; exact ho) hg (by simp)
                    have HA2 := Aside0.mk hA
                    clear hA ho hg
                    go_wp2
                    go_roundg q
                    case measure => omega
                    case rel => exact ⟨xs.length + 1, xs ++ [43], g', c', by rw [Int.natCast_succ], rfl, by omega, by simp, HR2, HA2⟩
              · obtain rfl : gk = 0 := by omega
                have hje : xs.length = a0.size := by omega
                have hd : decide ((xs.length : Int) < (a0.size : Int)) = false := decide_eq_false (by omega)
                have hres := HRes.out
                rw [List.drop_of_length_le (by rw [bytesOf_length]; omega)] at hres
                have hcb := Kd.C_string (P := Tryd.prog) (c := c) Tryd.underlying62 Tryd.underlying5 Tryd.underlying9 (HA.out.C (by omega))
                rw [show turnB [] = [] from rfl, List.append_nil] at hres
                rw [hres] at hcb
                have hbe := Aside0.mk HA.out.bel
                clear hres HRes HA hje
                go_wp2
                go_ret2
                exact ⟨rfl, hbe.out⟩
          · rw [if_neg c0] at hr
            have hc : (rd b (i : Int) != a1) = true := bne_iff_ne.2 c0
            have HR2 := Aside0.mk hr
            have HI2 := Aside0.mk (show wrap64 ((i : Int) + 1) = ((i + 1 : Nat) : Int) by unfold wrap64; omega)
            clear hr HR c0
            go_wp2
            go_roundg q
            case measure => omega
            case rel => exact ⟨i + 1, rfl, by rw [Int.natCast_succ], by omega, HR2⟩
        · obtain rfl : gk = 0 := by omega
          have hle : decide ((i : Int) ≤ (a0.size : Int)) = false := decide_eq_false (by omega)
          have hr := HR.out
          rw [rfi] at hr
          have hx := HX.out
          rw [← hr, if_pos (by decide)] at hx
          simp only [Option.some.injEq, Prod.mk.injEq] at hx
          obtain ⟨rfl, rfl⟩ := hx
          clear hr HR HX
          go_wp2
          go_ret2
          exact ⟨rfl, HBel.out⟩
    · rw [if_neg hg] at h; cases h
  · rw [if_neg h0] at h
    simp only [Option.some.injEq, Prod.mk.injEq] at h
    obtain ⟨rfl, rfl⟩ := h
    have h0' : (e != 0) = true := bne_iff_ne.2 h0
    clear he h0
    go_enter Tryd.func27, Tryd.ntmps27
    go_wp2_with (go_at_call 57; refine (pomaderef09_Walk.calls k a0 e _ HE.out).mono ?_; rintro e w1 ⟨rfl, ⟨nd, rfl⟩⟩)
    go_ret2
    exact ⟨rfl, pw_below_drewN (Below.refl _ _) nd⟩

end Go.Proofs.YtnjimbgfafkogaaDoor.Hand
