/- FormatSchedule, both sides. -/
import Derived.Test.YtkfpciggolkjeaaGreatDoorJoin
import Derived.Test.YtkfpciggolkjeaaGreatDoorFmtLit
import Derived.Test.YtkfpciggolkjeaaGreatDoorSchForm
import Derived.Test.YtkfpciggolkjeaaGreatDoorMode
import Derived.Test.YtkfpciggolkjeaaGreatDoorOwnS
import Derived.Deep.RegionHeld3
import Derived.StillTailTactics
import Derived.Deep.Cut
import Derived.Conc.WalkWords
import Derived.Deep.DrawnRows
import Derived.Deep.DeepCutAuto
namespace Go.Proofs.YtkfpciggolkjeaaGreatDoor
open Go.ChangeShapes Go.WideShapes Go.ChangeAt Go.RowKit
set_option linter.unusedVariables false

def wordV (p : ProjT) (s : SchT) (k : Nat) : ByteArray := (p.2.1.getD k zAct).1 ++ ⟨#[64]⟩ ++ fmtV (s.1.getD k 0) ++ ⟨#[47]⟩ ++ fmtV (s.2.getD k 0)
def wordsTo (p : ProjT) (s : SchT) (k : Nat) : List ByteArray := (List.range k).map (wordV p s)
def fmtSchV (p : ProjT) (s : SchT) : ByteArray := if schFormB p s = true then joinB (wordsTo p s p.2.1.length) ⟨#[32]⟩ else ⟨#[]⟩
theorem wordsTo_len (p : ProjT) (s : SchT) (k : Nat) : (wordsTo p s k).length = k := by simp [wordsTo]
theorem wordsTo_succ (p : ProjT) (s : SchT) (k : Nat) : wordsTo p s (k + 1) = wordsTo p s k ++ [wordV p s k] := by simp [wordsTo, List.range_succ]
theorem wordsTo_size {p : ProjT} {s : SchT} (h : projOk p = true) : ∀ x ∈ wordsTo p s p.2.1.length, x.size ≤ 1000 := by
  intro x hx
  obtain ⟨k, hk, rfl⟩ := List.mem_map.1 hx
  have h1 := name_size h (List.mem_range.1 hk)
  have h2 := fmtV_size (s.1.getD k 0)
  have h3 := fmtV_size (s.2.getD k 0)
  have z1 : (⟨#[64]⟩ : ByteArray).size = 1 := rfl
  have z2 : (⟨#[47]⟩ : ByteArray).size = 1 := rfl
  unfold wordV
  simp only [ByteArray.size_append]
  omega
set_option maxRecDepth 100000 in
set_option maxHeartbeats 2000000 in
theorem sFormatSchedule_all (v : Value) (p : ProjT) (S : Nat → Prop) (v1 : Value) (s : SchT) (T : Nat → Prop) (w : World) (hx : aggR projR S w v p) (hS : ∀ b, S b → b < w.heap.size) (hs : aggR schR T w v1 s) (hT : ∀ b, T b → b < w.heap.size) :
    Calls Tryz.prog 54 #[v, v1] w fun e w' => e = .returned (.string (fmtSchV p s)) ∧ Bel w w' := by
  obtain ⟨cs, rfl, hx⟩ := hx
  obtain ⟨c1, c2, c3, c4, rfl, q0, q1, q2, q3, q4⟩ := projR_open hx
  have Q1 := Lib.hid q1
  have Q2 := Lib.hid q2
  have Q3 := Lib.hid q3
  have Q4 := Lib.hid q4
  have HP := Lib.hid hx
  obtain ⟨p1, k1, rfl, l1, l1', -⟩ := sliceR_open q1
  obtain ⟨p2, k2, rfl, l2, l2', -⟩ := sliceR_open q2
  obtain ⟨p3, k3, rfl, l3, l3', -⟩ := sliceR_open q3
  obtain ⟨p4, k4, rfl, l4, l4', -⟩ := sliceR_open q4
  unfold maxLen at l1' l2' l3' l4'
  clear hx q0 q1 q2 q3 q4
  obtain ⟨zs, rfl, hs⟩ := hs
  have HZ := hs
  obtain ⟨z0, z1, rfl, zq0, zq1⟩ := schR_open hs
  have A0 := Lib.hid (fun i hi => intsR_at' zq0 (i := i) hi)
  have A1 := Lib.hid (fun i hi => intsR_at' zq1 (i := i) hi)
  obtain ⟨sp0, sk0, rfl, sl0, sl0', -⟩ := sliceR_open zq0
  obtain ⟨sp1, sk1, rfl, sl1, sl1', -⟩ := sliceR_open zq1
  unfold maxLen at sl0' sl1'
  have HT := Lib.hid hT
  have HQ1 := Lib.hid (show ∀ W, Bel w W → aggR schR T W (.agg #[.slice sp0 s.1.length sk0, .slice sp1 s.2.length sk1]) s from fun W hW => aggR_mk (schR_good.bel HZ hW HT.out))
  clear hs zq0 zq1 hT HZ
  have HS := Lib.hid hS
  clear hS
  have HP1 := Lib.hid (show ∀ W, Bel w W → aggR projR S W (.agg #[.int .i64 p.1, .slice p1 p.2.1.length k1, .slice p2 p.2.2.1.length k2, .slice p3 p.2.2.2.1.length k3, .slice p4 p.2.2.2.2.length k4]) p from fun W hW => aggR_mk (projR_good.bel HP.out hW HS.out))
  show Calls Tryz.prog 54 #[.agg #[.int .i64 p.1, .slice p1 p.2.1.length k1, .slice p2 p.2.2.1.length k2, .slice p3 p.2.2.2.1.length k3, .slice p4 p.2.2.2.2.length k4], .agg #[.slice sp0 s.1.length sk0, .slice sp1 s.2.length sk1]] w _
  go_enter Tryz.func54, Tryz.ntmps54
  go_wp2_with fail
  refine (sScheduleForm_all _ p S _ s T _ (HP1.out _ (by (repeat (first | assumption | exact Bel.refl _ | apply Bel.drewN | apply Bel.drew | apply Bel.alloc | refine Bel.trans ?_ (by assumption))))) (fun b hb => Nat.lt_of_lt_of_le (HS.out b hb) (Bel.size (by (repeat (first | assumption | exact Bel.refl _ | apply Bel.drewN | apply Bel.drew | apply Bel.alloc | refine Bel.trans ?_ (by assumption)))))) (HQ1.out _ (by (repeat (first | assumption | exact Bel.refl _ | apply Bel.drewN | apply Bel.drew | apply Bel.alloc | refine Bel.trans ?_ (by assumption))))) (fun b hb => Nat.lt_of_lt_of_le (HT.out b hb) (Bel.size (by (repeat (first | assumption | exact Bel.refl _ | apply Bel.drewN | apply Bel.drew | apply Bel.alloc | refine Bel.trans ?_ (by assumption))))))).mono ?_
  rintro e w1 ⟨rfl, g1⟩
  have HBOX := Lib.hid (show ∀ W, Bel w1 W → W.cell? ⟨w.heap.size, 0, none⟩ = some (.int .i64 p.1) ∧ W.cell? ⟨w.heap.size, 1, none⟩ = some (.slice p1 p.2.1.length k1) ∧ W.cell? ⟨w.heap.size, 2, none⟩ = some (.slice p2 p.2.2.1.length k2) ∧ W.cell? ⟨w.heap.size, 3, none⟩ = some (.slice p3 p.2.2.2.1.length k3) ∧ W.cell? ⟨w.heap.size, 4, none⟩ = some (.slice p4 p.2.2.2.2.length k4) ∧ W.cell? ⟨w.heap.size + 1, 0, none⟩ = some (.slice sp0 s.1.length sk0) ∧ W.cell? ⟨w.heap.size + 1, 1, none⟩ = some (.slice sp1 s.2.length sk1) from fun W hW => ⟨hW.cell (g1.cell (by simp [go_sem])), hW.cell (g1.cell (by simp [go_sem])), hW.cell (g1.cell (by simp [go_sem])), hW.cell (g1.cell (by simp [go_sem])), hW.cell (g1.cell (by simp [go_sem])), hW.cell (g1.cell (by simp [go_sem])), hW.cell (g1.cell (by simp [go_sem]))⟩)
  have G : Bel w w1 := by (repeat (first | assumption | exact Bel.refl _ | apply Bel.drewN | apply Bel.drew | apply Bel.alloc | refine Bel.trans ?_ (by assumption)))
  clear g1
  cases hf : schFormB p s
  · have HF := Lib.hid (show fmtSchV p s = ⟨#[]⟩ from by unfold fmtSchV; rw [hf]; rfl)
    clear hf
    obtain ⟨b0, b1, b2, b3, b4, c0, c1⟩ := HBOX.out w1 (Bel.refl _)
    go_wp2_with fail
    go_ret
    exact ⟨ret_str HF.out.symm, by (repeat (first | assumption | exact Bel.refl _ | apply Bel.drewN | apply Bel.drew | apply Bel.alloc | refine Bel.trans ?_ (by assumption)))⟩
  have HFO := Lib.hid hf
  have HF := Lib.hid (show fmtSchV p s = joinB (wordsTo p s p.2.1.length) ⟨#[32]⟩ from by unfold fmtSchV; rw [hf]; rfl)
  clear hf
  have hpl := (projOk_bd (projOk_form HFO.out)).2.1
  obtain ⟨b0, b1, b2, b3, b4, c0, c1⟩ := HBOX.out w1 (Bel.refl _)
  have x1 := fun o => ((Bel.refl w1).alloc o).cell b1
  go_wp2_with fail
  clear x1 b0 b1 b2 b3 b4 c0 c1
  go_loopw [5, 16] (fun o i wr => ∃ (k : Nat) (q : Option Addr) (cap : Nat), k ≤ p.2.1.length ∧ i = .int .i64 k ∧ o = .slice q (wordsTo p s k).length cap ∧ Own (fun _ => False) 1 strR 9 w1.heap.size wr q cap (wordsTo p s k) ∧ Bel w1 wr)
    (fun _ i _ => p.2.1.length - (intOf i).toNat)
  case atStart => exact ⟨0, _, _, Nat.zero_le _, rfl, rfl, Own.empty (alloc_at (by simp)) (by simp), by (repeat (first | assumption | exact Bel.refl _ | apply Bel.drewN | apply Bel.drew | apply Bel.alloc | refine Bel.trans ?_ (by assumption)))⟩
  case round =>
    obtain ⟨k, q, cap, hk, rfl, rfl, hO, hB⟩ := hrel
    have hsz := hB.size
    have HYL := Lib.hid (wordsTo_len p s k)
    have hyl : (wordsTo p s k).length ≤ 6 := by rw [HYL.out]; omega
    by_cases hlt : k < p.2.1.length
    · obtain ⟨⟨-, hk0, hk1, -⟩, -, -⟩ := formAt_in HFO.out hlt
      obtain ⟨b0, b1, b2, b3, b4, c0, c1⟩ := HBOX.out wr hB
      have GB : Bel w wr := by (repeat (first | assumption | exact Bel.refl _ | apply Bel.drewN | apply Bel.drew | apply Bel.alloc | refine Bel.trans ?_ (by assumption)))
      obtain ⟨ab, ao, acs, rfl, arow, ael⟩ := sliceR_at zAct Q1.out hlt
      obtain ⟨ac2, rfl, aq0, aq1, aq2⟩ := actR_open ael
      obtain ⟨am, amk, rfl, aml, aml', -⟩ := sliceR_open aq2
      unfold maxLen at aml'
      have ea0 := GB.cell (arow 0 (by simp)).1
      have ea1 := GB.cell (arow 1 (by simp)).1
      have ea2 := GB.cell (arow 2 (by simp)).1
      simp only [List.getElem_cons_zero, List.getElem_cons_succ, Nat.add_zero] at ea0 ea1 ea2
      clear arow ael aq0 aq1 aq2
      have sz := name_size (projOk_form HFO.out) hlt
      obtain ⟨sb0, so0, rfl, sa0⟩ := A0.out k hk0
      obtain ⟨sb1, so1, rfl, sa1⟩ := A1.out k hk1
      have sa0 := G.cell sa0
      have sa1 := G.cell sa1
      have HWD := Lib.hid (show wordsTo p s (k + 1) = wordsTo p s k ++ [(p.2.1.getD k zAct).1 ++ ⟨#[64]⟩ ++ fmtV (s.1.getD k 0) ++ ⟨#[47]⟩ ++ fmtV (s.2.getD k 0)] from wordsTo_succ p s k)
      have hza := fmtV_size (s.1.getD k 0)
      have hzb := fmtV_size (s.2.getD k 0)
      have hki0 : (k : Int) < (s.1.length : Int) := by omega
      have hki1 : (k : Int) < (s.2.length : Int) := by omega
      have hki : (k : Int) < (p.2.1.length : Int) := by omega
      generalize wordsTo p s k = ys at *
      generalize p.2.1.getD k zAct = X at *
      obtain ⟨nm, hnm⟩ : ∃ x, X.1 = x := ⟨_, rfl⟩
      rw [hnm] at ea0 sz HWD
      clear hnm
      generalize s.1.getD k 0 = st at *
      generalize s.2.getD k 0 = md at *
      obtain ⟨f0, hf0⟩ : ∃ x, fmtV st = x := ⟨_, rfl⟩
      obtain ⟨f1, hf1⟩ : ∃ x, fmtV md = x := ⟨_, rfl⟩
      rw [hf0] at hza HWD
      rw [hf1] at hzb HWD
      have HF0 := Lib.hid hf0
      have HF1 := Lib.hid hf1
      clear hf0 hf1
      have z1 : (⟨#[64]⟩ : ByteArray).size = 1 := rfl
      have z2 : (⟨#[47]⟩ : ByteArray).size = 1 := rfl
      have hs1 := fun W => run_string_add_sum (P := Tryz.prog) W nm ⟨#[64]⟩ (by omega)
      have hs2 := fun W => run_string_add_sum (P := Tryz.prog) W (nm ++ ⟨#[64]⟩) f0 (by simp only [ByteArray.size_append]; omega)
      have hs3 := fun W => run_string_add_sum (P := Tryz.prog) W (nm ++ ⟨#[64]⟩ ++ f0) ⟨#[47]⟩ (by simp only [ByteArray.size_append]; omega)
      have hs4 := fun W => run_string_add_sum (P := Tryz.prog) W (nm ++ ⟨#[64]⟩ ++ f0 ++ ⟨#[47]⟩) f1 (by simp only [ByteArray.size_append]; omega)
      have HSZ := Lib.hid (show (nm ++ ⟨#[64]⟩ ++ f0 ++ ⟨#[47]⟩ ++ f1).size ≤ maxLen from by unfold maxLen; simp only [ByteArray.size_append]; omega)
      have hq : ∀ a, q = some a → wr.heap.size ≠ a.block := by
        intro a ha e
        rcases hO.cases with ⟨h1, -, -⟩ | ⟨g, cur, h1, -, -, h2, -⟩
        · rw [h1] at ha; cases ha
        · rw [h1] at ha; cases ha; (dsimp only at e); omega
      have HQ := Lib.hid hq
      clear hq
      have hWW : Bel wr wr := Bel.refl _
      clear b0 b1 b2 b3 b4
      have HALL := Lib.hid (show ∀ W, Bel w1 W → W.cell? ⟨w.heap.size + 1, 0, none⟩ = some (.slice (some ⟨sb0, so0, none⟩) s.1.length sk0) ∧ W.cell? ⟨w.heap.size + 1, 1, none⟩ = some (.slice (some ⟨sb1, so1, none⟩) s.2.length sk1) ∧ W.cell? ⟨sb0, so0 + k, none⟩ = some (.int .i64 st) ∧ W.cell? ⟨sb1, so1 + k, none⟩ = some (.int .i64 md) from fun W hW => by
        obtain ⟨-, -, -, -, -, c0, c1⟩ := HBOX.out W hW
        exact ⟨c0, c1, hW.cell sa0, hW.cell sa1⟩)
      clear c0 c1 sa0 sa1
      go_upto_region 7 with (fail)
      have HNM := Lib.hid (show ∀ W, Bel (wr.alloc (Obj.cells #[.string nm, .int .i64 X.2.1, .slice am X.2.2.length amk] 67)) W → W.cell? ⟨wr.heap.size, 0, none⟩ = some (.string nm) ∧ wr.heap.size < W.heap.size from fun W hW => ⟨hW.cell (by simp [go_sem]), by have := hW.size; rw [World.size_alloc] at this; omega⟩)
      refine wp_region_held_drew (S := (fun W => W.cell? ⟨wr.heap.size, 0, none⟩ = some (.string nm) ∧ W.cell? ⟨w.heap.size + 1, 0, none⟩ = some (.slice (some ⟨sb0, so0, none⟩) s.1.length sk0) ∧ W.cell? ⟨w.heap.size + 1, 1, none⟩ = some (.slice (some ⟨sb1, so1, none⟩) s.2.length sk1) ∧ W.cell? ⟨sb0, so0 + k, none⟩ = some (.int .i64 st) ∧ W.cell? ⟨sb1, so1 + k, none⟩ = some (.int .i64 md))) (by kernel_rfl) ?_ (fun hHeld => ?_)
      · ((try dsimp only); (first | exact ⟨nm', HALL.out _ HB'⟩ | (with_reducible exact ⟨(HNM.out _ (by (repeat (first | assumption | exact Bel.refl _ | apply Bel.drewN | apply Bel.drew | apply Bel.alloc | refine Bel.trans ?_ (by assumption))))).1, HALL.out _ (by (repeat (first | assumption | exact Bel.refl _ | apply Bel.drewN | apply Bel.drew | apply Bel.alloc | refine Bel.trans ?_ (by assumption))))⟩) | exact ⟨(HNM.out _ (by (repeat (first | assumption | exact Bel.refl _ | apply Bel.drewN | apply Bel.drew | apply Bel.alloc | refine Bel.trans ?_ (by assumption))))).1, HALL.out _ (by (repeat (first | assumption | exact Bel.refl _ | apply Bel.drewN | apply Bel.drew | apply Bel.alloc | refine Bel.trans ?_ (by assumption))))⟩))
      refine wpAnyH_take (i := 0) (v := ?_) rfl (by kernel_rfl) (by kernel_rfl) (by kernel_rfl) (fun _ _ _ h => h) (Or.inl ⟨by rfl, ?_⟩) (by assumption) ?_
      rotate_left
      · (intro w hSw; (try dsimp only at hSw); go_simp <;> with_reducible rfl)
      try walk_nrm
      refine wpAnyH_take (i := 1) (v := ?_) rfl (by kernel_rfl) (by kernel_rfl) (by kernel_rfl) (fun _ _ _ h => h) (Or.inl ⟨by rfl, ?_⟩) (by assumption) ?_
      rotate_left
      · (intro w hSw; (try dsimp only at hSw); go_simp <;> with_reducible rfl)
      try walk_nrm
      refine wpAnyH_take (i := 2) (v := ?_) rfl (by kernel_rfl) (by kernel_rfl) (by kernel_rfl) (fun _ _ _ h => h) (Or.inl ⟨by rfl, ?_⟩) (by assumption) ?_
      rotate_left
      · (intro w hSw; (try dsimp only at hSw); go_simp <;> with_reducible rfl)
      try walk_nrm
      refine wpAnyH_take (i := 3) (v := ?_) rfl (by kernel_rfl) (by kernel_rfl) (by kernel_rfl) (fun _ _ _ h => h) (Or.inl ⟨by rfl, ?_⟩) (by assumption) ?_
      rotate_left
      · (intro w hSw; (try dsimp only at hSw); go_simp <;> with_reducible rfl)
      try walk_nrm
      refine wpAnyH_take (i := 4) (v := ?_) rfl (by kernel_rfl) (by kernel_rfl) (by kernel_rfl) (fun _ _ _ h => h) (Or.inl ⟨by rfl, ?_⟩) (by assumption) ?_
      rotate_left
      · (intro w hSw; (try dsimp only at hSw); go_simp <;> with_reducible rfl)
      try walk_nrm
      refine wpAnyH_take (i := 5) (v := ?_) rfl (by kernel_rfl) (by kernel_rfl) (by kernel_rfl) (fun _ _ _ h => h) (Or.inl ⟨by rfl, ?_⟩) (by assumption) ?_
      rotate_left
      · (intro w hSw; (try dsimp only at hSw); go_simp <;> with_reducible rfl)
      try walk_nrm
      refine wpAnyH_take (i := 6) (v := ?_) rfl (by kernel_rfl) (by kernel_rfl) (by kernel_rfl) (fun _ _ _ h => h) (Or.inl ⟨by rfl, ?_⟩) (by assumption) ?_
      rotate_left
      · (intro w hSw; (try dsimp only at hSw); go_simp <;> with_reducible rfl)
      try walk_nrm
      refine wpAnyH_take (i := 7) (v := ?_) rfl (by kernel_rfl) (by kernel_rfl) (by kernel_rfl) (fun _ _ _ h => h) (Or.inl ⟨by rfl, ?_⟩) (by assumption) ?_
      rotate_left
      · (intro w hSw; (try dsimp only at hSw); go_simp <;> with_reducible rfl)
      try walk_nrm
      refine wpAnyH_take (i := 8) (v := ?_) rfl (by kernel_rfl) (by kernel_rfl) (by kernel_rfl) (fun _ _ _ h => h) (Or.inl ⟨by rfl, ?_⟩) (by assumption) ?_
      rotate_left
      · (intro w hSw; (try dsimp only at hSw); go_simp <;> with_reducible rfl)
      try walk_nrm
      refine wpAnyH_take (i := 12) (v := ?_) rfl (by kernel_rfl) (by kernel_rfl) (by kernel_rfl) (fun _ _ _ h => h) (Or.inl ⟨by rfl, ?_⟩) (by assumption) ?_
      rotate_left
      · (intro w hSw; (try dsimp only at hSw); go_simp <;> with_reducible rfl)
      try walk_nrm
      refine wpAnyH_take (i := 13) (v := ?_) rfl (by kernel_rfl) (by kernel_rfl) (by kernel_rfl) (fun _ _ _ h => h) (Or.inl ⟨by rfl, ?_⟩) (by assumption) ?_
      rotate_left
      · (intro w hSw; (try dsimp only at hSw); go_simp <;> with_reducible rfl)
      try walk_nrm
      refine wpAnyH_take (i := 14) (v := ?_) rfl (by kernel_rfl) (by kernel_rfl) (by kernel_rfl) (fun _ _ _ h => h) (Or.inl ⟨by rfl, ?_⟩) (by assumption) ?_
      rotate_left
      · (intro w hSw; (try dsimp only at hSw); go_simp <;> with_reducible rfl)
      try walk_nrm
      refine wpAnyH_take (i := 15) (v := ?_) rfl (by kernel_rfl) (by kernel_rfl) (by kernel_rfl) (fun _ _ _ h => h) (Or.inl ⟨by rfl, ?_⟩) (by assumption) ?_
      rotate_left
      · (intro w hSw; (try dsimp only at hSw); go_simp <;> with_reducible rfl)
      try walk_nrm
      refine wpAnyH_take (i := 16) (v := ?_) rfl (by kernel_rfl) (by kernel_rfl) (by kernel_rfl) (fun _ _ _ h => h) (Or.inl ⟨by rfl, ?_⟩) (by assumption) ?_
      rotate_left
      · (intro w hSw; (try dsimp only at hSw); go_simp <;> with_reducible rfl)
      try walk_nrm
      refine wpAnyH_ready (rs := [9]) (by kernel_rfl) (by simp) ?_
      refine AllReadyH.cons rfl (fun K hK => ?_) AllReadyH.nil
      · go_simp
        (go_at_call 31; (with_reducible refine (sFormatInt_any st _).mono ?_); rintro e wt ⟨rfl, gt⟩; rw [HF0.out])
        try go_wp2_with fail
        refine hK.out _ _ ?_ (fun hHeld => ?_)
        · ((try dsimp only); (first | exact ⟨nm', HALL.out _ HB'⟩ | (with_reducible exact ⟨(HNM.out _ (by (repeat (first | assumption | exact Bel.refl _ | apply Bel.drewN | apply Bel.drew | apply Bel.alloc | refine Bel.trans ?_ (by assumption))))).1, HALL.out _ (by (repeat (first | assumption | exact Bel.refl _ | apply Bel.drewN | apply Bel.drew | apply Bel.alloc | refine Bel.trans ?_ (by assumption))))⟩) | exact ⟨(HNM.out _ (by (repeat (first | assumption | exact Bel.refl _ | apply Bel.drewN | apply Bel.drew | apply Bel.alloc | refine Bel.trans ?_ (by assumption))))).1, HALL.out _ (by (repeat (first | assumption | exact Bel.refl _ | apply Bel.drewN | apply Bel.drew | apply Bel.alloc | refine Bel.trans ?_ (by assumption))))⟩))
        clear hK K
        try walk_nrm
        refine wpAnyH_take (i := 10) (v := ?_) rfl (by kernel_rfl) (by kernel_rfl) (by kernel_rfl) (fun _ _ _ h => h) (Or.inl ⟨by rfl, ?_⟩) (by assumption) ?_
        rotate_left
        · (intro w hSw; (try dsimp only at hSw); go_simp <;> with_reducible rfl)
        try walk_nrm
        refine wpAnyH_take (i := 11) (v := ?_) rfl (by kernel_rfl) (by kernel_rfl) (by kernel_rfl) (fun _ _ _ h => h) (Or.inl ⟨by rfl, ?_⟩) (by assumption) ?_
        rotate_left
        · (intro w hSw; (try dsimp only at hSw); go_simp <;> with_reducible rfl)
        try walk_nrm
        refine wpAnyH_ready (rs := [17]) (by kernel_rfl) (by simp) ?_
        refine AllReadyH.cons rfl (fun K hK => ?_) AllReadyH.nil
        · go_simp
          (go_at_call 31; (with_reducible refine (sFormatInt_any md _).mono ?_); rintro e wt ⟨rfl, gt⟩; rw [HF1.out])
          try go_wp2_with fail
          refine hK.out _ _ ?_ (fun hHeld => ?_)
          · ((try dsimp only); (first | exact ⟨nm', HALL.out _ HB'⟩ | (with_reducible exact ⟨(HNM.out _ (by (repeat (first | assumption | exact Bel.refl _ | apply Bel.drewN | apply Bel.drew | apply Bel.alloc | refine Bel.trans ?_ (by assumption))))).1, HALL.out _ (by (repeat (first | assumption | exact Bel.refl _ | apply Bel.drewN | apply Bel.drew | apply Bel.alloc | refine Bel.trans ?_ (by assumption))))⟩) | exact ⟨(HNM.out _ (by (repeat (first | assumption | exact Bel.refl _ | apply Bel.drewN | apply Bel.drew | apply Bel.alloc | refine Bel.trans ?_ (by assumption))))).1, HALL.out _ (by (repeat (first | assumption | exact Bel.refl _ | apply Bel.drewN | apply Bel.drew | apply Bel.alloc | refine Bel.trans ?_ (by assumption))))⟩))
          clear hK K
          try walk_nrm
          refine wpAnyH_take (i := 18) (v := ?_) rfl (by kernel_rfl) (by kernel_rfl) (by kernel_rfl) (fun _ _ _ h => h) (Or.inl ⟨by rfl, ?_⟩) (by assumption) ?_
          rotate_left
          · (intro w hSw; (try dsimp only at hSw); go_simp <;> with_reducible rfl)
          try walk_nrm
          refine wpAnyH_ready (rs := [19]) (by kernel_rfl) (by simp) ?_
          refine AllReadyH.cons rfl (fun K hK => ?_) AllReadyH.nil
          · go_simp
            refine hK.out _ _ ?_ (fun hHeld => ?_)
            · ((try dsimp only); (first | exact ⟨nm', HALL.out _ HB'⟩ | (with_reducible exact ⟨(HNM.out _ (by (repeat (first | assumption | exact Bel.refl _ | apply Bel.drewN | apply Bel.drew | apply Bel.alloc | refine Bel.trans ?_ (by assumption))))).1, HALL.out _ (by (repeat (first | assumption | exact Bel.refl _ | apply Bel.drewN | apply Bel.drew | apply Bel.alloc | refine Bel.trans ?_ (by assumption))))⟩) | exact ⟨(HNM.out _ (by (repeat (first | assumption | exact Bel.refl _ | apply Bel.drewN | apply Bel.drew | apply Bel.alloc | refine Bel.trans ?_ (by assumption))))).1, HALL.out _ (by (repeat (first | assumption | exact Bel.refl _ | apply Bel.drewN | apply Bel.drew | apply Bel.alloc | refine Bel.trans ?_ (by assumption))))⟩))
            clear hK K
            try walk_nrm
            refine wpAnyH_ready (rs := [20]) (by kernel_rfl) (by simp) ?_
            refine AllReadyH.cons rfl (fun K hK => ?_) AllReadyH.nil
            · (refine step_appG (o := ⟨some 41, _, _, _, _, _⟩) (n := 1) strR_goodJ _ (by rfl) _ _ 64 (by rfl) (.string ⟨#[]⟩) 16 Tryz.underlying64 (by kernel_rfl) rfl (by decide) (by decide) q cap ys (nm ++ ⟨#[64]⟩ ++ f0 ++ ⟨#[47]⟩ ++ f1) (by rfl) (hO.bel strR_goodJ (by (repeat (first | assumption | exact Bel.refl _ | apply Bel.drewN | apply Bel.drew | apply Bel.alloc | refine Bel.trans ?_ (by assumption))))) _ 1 [.string (nm ++ ⟨#[64]⟩ ++ f0 ++ ⟨#[47]⟩ ++ f1)] (by rfl) rfl (World.news_of_block (alloc_at (by first | rfl | (simp; done) | (simp; omega)))) (by intro u hu; simp at hu; subst hu; rfl) ⟨rfl, HSZ.out⟩ (by omega) (Bel.size (w := w1) (by (repeat (first | assumption | exact Bel.refl _ | apply Bel.drewN | apply Bel.drew | apply Bel.alloc | refine Bel.trans ?_ (by assumption))))) ?_; intro q' cap' wA hOA hBA hFA; have nm' : wA.cell? ⟨wr.heap.size, 0, none⟩ = some (.string nm) := (by rw [World.cell?_of_block (hFA _ (HNM.out _ (by (repeat (first | assumption | exact Bel.refl _ | apply Bel.drewN | apply Bel.drew | apply Bel.alloc | refine Bel.trans ?_ (by assumption))))).2 HQ.out).1]; exact (HNM.out _ (by (repeat (first | assumption | exact Bel.refl _ | apply Bel.drewN | apply Bel.drew | apply Bel.alloc | refine Bel.trans ?_ (by assumption))))).1); have HB' := Below.trans (show Bel w1 _ from (by (repeat (first | assumption | exact Bel.refl _ | apply Bel.drewN | apply Bel.drew | apply Bel.alloc | refine Bel.trans ?_ (by assumption))))) (Below.mono hBA (Nat.le_refl _)); clear hBA hFA)
              refine hK.out _ _ ?_ (fun hHeld => ?_)
              · ((try dsimp only); (first | exact ⟨nm', HALL.out _ HB'⟩ | (with_reducible exact ⟨(HNM.out _ (by (repeat (first | assumption | exact Bel.refl _ | apply Bel.drewN | apply Bel.drew | apply Bel.alloc | refine Bel.trans ?_ (by assumption))))).1, HALL.out _ (by (repeat (first | assumption | exact Bel.refl _ | apply Bel.drewN | apply Bel.drew | apply Bel.alloc | refine Bel.trans ?_ (by assumption))))⟩) | exact ⟨(HNM.out _ (by (repeat (first | assumption | exact Bel.refl _ | apply Bel.drewN | apply Bel.drew | apply Bel.alloc | refine Bel.trans ?_ (by assumption))))).1, HALL.out _ (by (repeat (first | assumption | exact Bel.refl _ | apply Bel.drewN | apply Bel.drew | apply Bel.alloc | refine Bel.trans ?_ (by assumption))))⟩))
              clear hK K
              try walk_nrm
              refine wpAnyH_take (i := 21) (v := ?_) rfl (by kernel_rfl) (by kernel_rfl) (by kernel_rfl) (fun _ _ _ h => h) (Or.inl ⟨by rfl, ?_⟩) (by assumption) ?_
              rotate_left
              · (intro w hSw; (try dsimp only at hSw); go_simp <;> with_reducible rfl)
              try walk_nrm
              refine wpAnyH_done (by kernel_rfl) ?_ _
              go_wp2_with fail
              exact ⟨⟨k + 1, q', cap', by omega, by go_num, by rw [HWD.out]; simp, by rw [HWD.out]; exact hOA, HB'⟩, by simp [intOf]; omega⟩
    · obtain rfl : k = p.2.1.length := by omega
      have HD := Lib.hid (hO.done (T := New w wr) strR_goodJ (fun b h _ => h.elim) (fun b h1 h2 => ⟨by have := G.size; omega, h2⟩))
      have HWS := Lib.hid (wordsTo_size (p := p) (s := s) (projOk_form HFO.out))
      have GB : Bel w wr := by (repeat (first | assumption | exact Bel.refl _ | apply Bel.drewN | apply Bel.drew | apply Bel.alloc | refine Bel.trans ?_ (by assumption)))
      clear hO HYL
      generalize (wordsTo p s p.2.1.length).length = nW at *
      go_wp2_with fail
      refine (sJoin_any _ (wordsTo p s p.2.1.length) _ (New w wr) wr HD.out HWS.out (by decide) (by rw [wordsTo_len]; omega)).mono ?_
      rintro e wj ⟨rfl, rfl⟩
      go_wp2_with fail
      go_ret
      exact ⟨ret_str HF.out.symm, by (repeat (first | assumption | exact Bel.refl _ | apply Bel.drewN | apply Bel.drew | apply Bel.alloc | refine Bel.trans ?_ (by assumption)))⟩
theorem sFormatSchedule_any (v : Value) (p : ProjT) (S : Nat → Prop) (v1 : Value) (s : SchT) (T : Nat → Prop) (w : World) (hx : aggR projR S w v p) (hS : ∀ b, S b → b < w.heap.size) (_hn : bulkProject p ≤ 1048576) (hs : aggR schR T w v1 s) (hT : ∀ b, T b → b < w.heap.size) (_hn1 : bulkSchedule s ≤ 1048576) :
    Calls Tryz.prog 54 #[v, v1] w fun e w' => e = .returned (.string (fmtSchV p s)) ∧ Bel w w' := sFormatSchedule_all v p S v1 s T w hx hS hs hT

set_option maxRecDepth 100000 in
set_option maxHeartbeats 2000000 in
theorem iFormatSchedule_all (v : Value) (p : ProjT) (S : Nat → Prop) (v1 : Value) (s : SchT) (T : Nat → Prop) (w : World) (hx : aggR projR S w v p) (hS : ∀ b, S b → b < w.heap.size) (hs : aggR schR T w v1 s) (hT : ∀ b, T b → b < w.heap.size) (htab : Lib.TabIs Tryz.prog w "internal/strconv.uint64pow10" .u64 Lib.pow10Tab) :
    Calls Tryz.prog 56 #[v, v1] w fun e w' => e = .returned (.string (fmtSchV p s)) ∧ Bel w w' := by
  obtain ⟨cs, rfl, hx⟩ := hx
  obtain ⟨c1, c2, c3, c4, rfl, q0, q1, q2, q3, q4⟩ := projR_open hx
  have Q1 := Lib.hid q1
  have Q2 := Lib.hid q2
  have Q3 := Lib.hid q3
  have Q4 := Lib.hid q4
  have HP := Lib.hid hx
  obtain ⟨p1, k1, rfl, l1, l1', -⟩ := sliceR_open q1
  obtain ⟨p2, k2, rfl, l2, l2', -⟩ := sliceR_open q2
  obtain ⟨p3, k3, rfl, l3, l3', -⟩ := sliceR_open q3
  obtain ⟨p4, k4, rfl, l4, l4', -⟩ := sliceR_open q4
  unfold maxLen at l1' l2' l3' l4'
  clear hx q0 q1 q2 q3 q4
  obtain ⟨zs, rfl, hs⟩ := hs
  have HZ := hs
  obtain ⟨z0, z1, rfl, zq0, zq1⟩ := schR_open hs
  have A0 := Lib.hid (fun i hi => intsR_at' zq0 (i := i) hi)
  have A1 := Lib.hid (fun i hi => intsR_at' zq1 (i := i) hi)
  obtain ⟨sp0, sk0, rfl, sl0, sl0', -⟩ := sliceR_open zq0
  obtain ⟨sp1, sk1, rfl, sl1, sl1', -⟩ := sliceR_open zq1
  unfold maxLen at sl0' sl1'
  have HT := Lib.hid hT
  have HQ1 := Lib.hid (show ∀ W, Bel w W → aggR schR T W (.agg #[.slice sp0 s.1.length sk0, .slice sp1 s.2.length sk1]) s from fun W hW => aggR_mk (schR_good.bel HZ hW HT.out))
  clear hs zq0 zq1 hT HZ
  have HS := Lib.hid hS
  have HTB := Lib.hid htab
  clear htab
  clear hS
  have HP1 := Lib.hid (show ∀ W, Bel w W → aggR projR S W (.agg #[.int .i64 p.1, .slice p1 p.2.1.length k1, .slice p2 p.2.2.1.length k2, .slice p3 p.2.2.2.1.length k3, .slice p4 p.2.2.2.2.length k4]) p from fun W hW => aggR_mk (projR_good.bel HP.out hW HS.out))
  show Calls Tryz.prog 56 #[.agg #[.int .i64 p.1, .slice p1 p.2.1.length k1, .slice p2 p.2.2.1.length k2, .slice p3 p.2.2.2.1.length k3, .slice p4 p.2.2.2.2.length k4], .agg #[.slice sp0 s.1.length sk0, .slice sp1 s.2.length sk1]] w _
  go_enter Tryz.func56, Tryz.ntmps56
  go_wp2_with fail
  refine (iScheduleForm_all _ p S _ s T _ (HP1.out _ (by (repeat (first | assumption | exact Bel.refl _ | apply Bel.drewN | apply Bel.drew | apply Bel.alloc | refine Bel.trans ?_ (by assumption))))) (fun b hb => Nat.lt_of_lt_of_le (HS.out b hb) (Bel.size (by (repeat (first | assumption | exact Bel.refl _ | apply Bel.drewN | apply Bel.drew | apply Bel.alloc | refine Bel.trans ?_ (by assumption)))))) (HQ1.out _ (by (repeat (first | assumption | exact Bel.refl _ | apply Bel.drewN | apply Bel.drew | apply Bel.alloc | refine Bel.trans ?_ (by assumption))))) (fun b hb => Nat.lt_of_lt_of_le (HT.out b hb) (Bel.size (by (repeat (first | assumption | exact Bel.refl _ | apply Bel.drewN | apply Bel.drew | apply Bel.alloc | refine Bel.trans ?_ (by assumption))))))).mono ?_
  rintro e w1 ⟨rfl, g1⟩
  have HBOX := Lib.hid (show ∀ W, Bel w1 W → W.cell? ⟨w.heap.size, 0, none⟩ = some (.int .i64 p.1) ∧ W.cell? ⟨w.heap.size, 1, none⟩ = some (.slice p1 p.2.1.length k1) ∧ W.cell? ⟨w.heap.size, 2, none⟩ = some (.slice p2 p.2.2.1.length k2) ∧ W.cell? ⟨w.heap.size, 3, none⟩ = some (.slice p3 p.2.2.2.1.length k3) ∧ W.cell? ⟨w.heap.size, 4, none⟩ = some (.slice p4 p.2.2.2.2.length k4) ∧ W.cell? ⟨w.heap.size + 1, 0, none⟩ = some (.slice sp0 s.1.length sk0) ∧ W.cell? ⟨w.heap.size + 1, 1, none⟩ = some (.slice sp1 s.2.length sk1) from fun W hW => ⟨hW.cell (g1.cell (by simp [go_sem])), hW.cell (g1.cell (by simp [go_sem])), hW.cell (g1.cell (by simp [go_sem])), hW.cell (g1.cell (by simp [go_sem])), hW.cell (g1.cell (by simp [go_sem])), hW.cell (g1.cell (by simp [go_sem])), hW.cell (g1.cell (by simp [go_sem]))⟩)
  have G : Bel w w1 := by (repeat (first | assumption | exact Bel.refl _ | apply Bel.drewN | apply Bel.drew | apply Bel.alloc | refine Bel.trans ?_ (by assumption)))
  clear g1
  cases hf : schFormB p s
  · have HF := Lib.hid (show fmtSchV p s = ⟨#[]⟩ from by unfold fmtSchV; rw [hf]; rfl)
    clear hf
    obtain ⟨b0, b1, b2, b3, b4, c0, c1⟩ := HBOX.out w1 (Bel.refl _)
    go_wp2_with fail
    go_ret
    exact ⟨ret_str HF.out.symm, by (repeat (first | assumption | exact Bel.refl _ | apply Bel.drewN | apply Bel.drew | apply Bel.alloc | refine Bel.trans ?_ (by assumption)))⟩
  have HFO := Lib.hid hf
  have HF := Lib.hid (show fmtSchV p s = joinB (wordsTo p s p.2.1.length) ⟨#[32]⟩ from by unfold fmtSchV; rw [hf]; rfl)
  clear hf
  have hpl := (projOk_bd (projOk_form HFO.out)).2.1
  obtain ⟨b0, b1, b2, b3, b4, c0, c1⟩ := HBOX.out w1 (Bel.refl _)
  have x1 := fun o => ((Bel.refl w1).alloc o).cell b1
  go_wp2_with fail
  clear x1 b0 b1 b2 b3 b4 c0 c1
  go_loopw [5, 16] (fun o i wr => ∃ (k : Nat) (q : Option Addr) (cap : Nat), k ≤ p.2.1.length ∧ i = .int .i64 k ∧ o = .slice q (wordsTo p s k).length cap ∧ Own (fun _ => False) 1 strR 9 w1.heap.size wr q cap (wordsTo p s k) ∧ Bel w1 wr)
    (fun _ i _ => p.2.1.length - (intOf i).toNat)
  case atStart => exact ⟨0, _, _, Nat.zero_le _, rfl, rfl, Own.empty (alloc_at (by simp)) (by simp), by (repeat (first | assumption | exact Bel.refl _ | apply Bel.drewN | apply Bel.drew | apply Bel.alloc | refine Bel.trans ?_ (by assumption)))⟩
  case round =>
    obtain ⟨k, q, cap, hk, rfl, rfl, hO, hB⟩ := hrel
    have hsz := hB.size
    have HYL := Lib.hid (wordsTo_len p s k)
    have hyl : (wordsTo p s k).length ≤ 6 := by rw [HYL.out]; omega
    by_cases hlt : k < p.2.1.length
    · obtain ⟨⟨-, hk0, hk1, -⟩, -, -⟩ := formAt_in HFO.out hlt
      obtain ⟨b0, b1, b2, b3, b4, c0, c1⟩ := HBOX.out wr hB
      have GB : Bel w wr := by (repeat (first | assumption | exact Bel.refl _ | apply Bel.drewN | apply Bel.drew | apply Bel.alloc | refine Bel.trans ?_ (by assumption)))
      obtain ⟨ab, ao, acs, rfl, arow, ael⟩ := sliceR_at zAct Q1.out hlt
      obtain ⟨ac2, rfl, aq0, aq1, aq2⟩ := actR_open ael
      obtain ⟨am, amk, rfl, aml, aml', -⟩ := sliceR_open aq2
      unfold maxLen at aml'
      have ea0 := GB.cell (arow 0 (by simp)).1
      have ea1 := GB.cell (arow 1 (by simp)).1
      have ea2 := GB.cell (arow 2 (by simp)).1
      simp only [List.getElem_cons_zero, List.getElem_cons_succ, Nat.add_zero] at ea0 ea1 ea2
      clear arow ael aq0 aq1 aq2
      have sz := name_size (projOk_form HFO.out) hlt
      obtain ⟨sb0, so0, rfl, sa0⟩ := A0.out k hk0
      obtain ⟨sb1, so1, rfl, sa1⟩ := A1.out k hk1
      have sa0 := G.cell sa0
      have sa1 := G.cell sa1
      have HWD := Lib.hid (show wordsTo p s (k + 1) = wordsTo p s k ++ [(p.2.1.getD k zAct).1 ++ ⟨#[64]⟩ ++ fmtV (s.1.getD k 0) ++ ⟨#[47]⟩ ++ fmtV (s.2.getD k 0)] from wordsTo_succ p s k)
      have hza := fmtV_size (s.1.getD k 0)
      have hzb := fmtV_size (s.2.getD k 0)
      have hki0 : (k : Int) < (s.1.length : Int) := by omega
      have hki1 : (k : Int) < (s.2.length : Int) := by omega
      have hki : (k : Int) < (p.2.1.length : Int) := by omega
      generalize wordsTo p s k = ys at *
      generalize p.2.1.getD k zAct = X at *
      obtain ⟨nm, hnm⟩ : ∃ x, X.1 = x := ⟨_, rfl⟩
      rw [hnm] at ea0 sz HWD
      clear hnm
      generalize s.1.getD k 0 = st at *
      generalize s.2.getD k 0 = md at *
      obtain ⟨f0, hf0⟩ : ∃ x, fmtV st = x := ⟨_, rfl⟩
      obtain ⟨f1, hf1⟩ : ∃ x, fmtV md = x := ⟨_, rfl⟩
      rw [hf0] at hza HWD
      rw [hf1] at hzb HWD
      have HF0 := Lib.hid hf0
      have HF1 := Lib.hid hf1
      clear hf0 hf1
      have z1 : (⟨#[64]⟩ : ByteArray).size = 1 := rfl
      have z2 : (⟨#[47]⟩ : ByteArray).size = 1 := rfl
      have hs1 := fun W => run_string_add_sum (P := Tryz.prog) W nm ⟨#[64]⟩ (by omega)
      have hs2 := fun W => run_string_add_sum (P := Tryz.prog) W (nm ++ ⟨#[64]⟩) f0 (by simp only [ByteArray.size_append]; omega)
      have hs3 := fun W => run_string_add_sum (P := Tryz.prog) W (nm ++ ⟨#[64]⟩ ++ f0) ⟨#[47]⟩ (by simp only [ByteArray.size_append]; omega)
      have hs4 := fun W => run_string_add_sum (P := Tryz.prog) W (nm ++ ⟨#[64]⟩ ++ f0 ++ ⟨#[47]⟩) f1 (by simp only [ByteArray.size_append]; omega)
      have HSZ := Lib.hid (show (nm ++ ⟨#[64]⟩ ++ f0 ++ ⟨#[47]⟩ ++ f1).size ≤ maxLen from by unfold maxLen; simp only [ByteArray.size_append]; omega)
      have hq : ∀ a, q = some a → wr.heap.size ≠ a.block := by
        intro a ha e
        rcases hO.cases with ⟨h1, -, -⟩ | ⟨g, cur, h1, -, -, h2, -⟩
        · rw [h1] at ha; cases ha
        · rw [h1] at ha; cases ha; (dsimp only at e); omega
      have HQ := Lib.hid hq
      clear hq
      have hWW : Bel wr wr := Bel.refl _
      clear b0 b1 b2 b3 b4
      have HALL := Lib.hid (show ∀ W, Bel w1 W → W.cell? ⟨w.heap.size + 1, 0, none⟩ = some (.slice (some ⟨sb0, so0, none⟩) s.1.length sk0) ∧ W.cell? ⟨w.heap.size + 1, 1, none⟩ = some (.slice (some ⟨sb1, so1, none⟩) s.2.length sk1) ∧ W.cell? ⟨sb0, so0 + k, none⟩ = some (.int .i64 st) ∧ W.cell? ⟨sb1, so1 + k, none⟩ = some (.int .i64 md) from fun W hW => by
        obtain ⟨-, -, -, -, -, c0, c1⟩ := HBOX.out W hW
        exact ⟨c0, c1, hW.cell sa0, hW.cell sa1⟩)
      clear c0 c1 sa0 sa1
      go_upto_region 7 with (fail)
      have HNM := Lib.hid (show ∀ W, Bel (wr.alloc (Obj.cells #[.string nm, .int .i64 X.2.1, .slice am X.2.2.length amk] 67)) W → W.cell? ⟨wr.heap.size, 0, none⟩ = some (.string nm) ∧ wr.heap.size < W.heap.size from fun W hW => ⟨hW.cell (by simp [go_sem]), by have := hW.size; rw [World.size_alloc] at this; omega⟩)
      refine wp_region_held_drew (S := (fun W => W.cell? ⟨wr.heap.size, 0, none⟩ = some (.string nm) ∧ W.cell? ⟨w.heap.size + 1, 0, none⟩ = some (.slice (some ⟨sb0, so0, none⟩) s.1.length sk0) ∧ W.cell? ⟨w.heap.size + 1, 1, none⟩ = some (.slice (some ⟨sb1, so1, none⟩) s.2.length sk1) ∧ W.cell? ⟨sb0, so0 + k, none⟩ = some (.int .i64 st) ∧ W.cell? ⟨sb1, so1 + k, none⟩ = some (.int .i64 md))) (by kernel_rfl) ?_ (fun hHeld => ?_)
      · ((try dsimp only); (first | exact ⟨nm', HALL.out _ HB'⟩ | (with_reducible exact ⟨(HNM.out _ (by (repeat (first | assumption | exact Bel.refl _ | apply Bel.drewN | apply Bel.drew | apply Bel.alloc | refine Bel.trans ?_ (by assumption))))).1, HALL.out _ (by (repeat (first | assumption | exact Bel.refl _ | apply Bel.drewN | apply Bel.drew | apply Bel.alloc | refine Bel.trans ?_ (by assumption))))⟩) | exact ⟨(HNM.out _ (by (repeat (first | assumption | exact Bel.refl _ | apply Bel.drewN | apply Bel.drew | apply Bel.alloc | refine Bel.trans ?_ (by assumption))))).1, HALL.out _ (by (repeat (first | assumption | exact Bel.refl _ | apply Bel.drewN | apply Bel.drew | apply Bel.alloc | refine Bel.trans ?_ (by assumption))))⟩))
      refine wpAnyH_take (i := 0) (v := ?_) rfl (by kernel_rfl) (by kernel_rfl) (by kernel_rfl) (fun _ _ _ h => h) (Or.inl ⟨by rfl, ?_⟩) (by assumption) ?_
      rotate_left
      · (intro w hSw; (try dsimp only at hSw); go_simp <;> with_reducible rfl)
      try walk_nrm
      refine wpAnyH_take (i := 1) (v := ?_) rfl (by kernel_rfl) (by kernel_rfl) (by kernel_rfl) (fun _ _ _ h => h) (Or.inl ⟨by rfl, ?_⟩) (by assumption) ?_
      rotate_left
      · (intro w hSw; (try dsimp only at hSw); go_simp <;> with_reducible rfl)
      try walk_nrm
      refine wpAnyH_take (i := 2) (v := ?_) rfl (by kernel_rfl) (by kernel_rfl) (by kernel_rfl) (fun _ _ _ h => h) (Or.inl ⟨by rfl, ?_⟩) (by assumption) ?_
      rotate_left
      · (intro w hSw; (try dsimp only at hSw); go_simp <;> with_reducible rfl)
      try walk_nrm
      refine wpAnyH_take (i := 3) (v := ?_) rfl (by kernel_rfl) (by kernel_rfl) (by kernel_rfl) (fun _ _ _ h => h) (Or.inl ⟨by rfl, ?_⟩) (by assumption) ?_
      rotate_left
      · (intro w hSw; (try dsimp only at hSw); go_simp <;> with_reducible rfl)
      try walk_nrm
      refine wpAnyH_take (i := 4) (v := ?_) rfl (by kernel_rfl) (by kernel_rfl) (by kernel_rfl) (fun _ _ _ h => h) (Or.inl ⟨by rfl, ?_⟩) (by assumption) ?_
      rotate_left
      · (intro w hSw; (try dsimp only at hSw); go_simp <;> with_reducible rfl)
      try walk_nrm
      refine wpAnyH_take (i := 5) (v := ?_) rfl (by kernel_rfl) (by kernel_rfl) (by kernel_rfl) (fun _ _ _ h => h) (Or.inl ⟨by rfl, ?_⟩) (by assumption) ?_
      rotate_left
      · (intro w hSw; (try dsimp only at hSw); go_simp <;> with_reducible rfl)
      try walk_nrm
      refine wpAnyH_take (i := 6) (v := ?_) rfl (by kernel_rfl) (by kernel_rfl) (by kernel_rfl) (fun _ _ _ h => h) (Or.inl ⟨by rfl, ?_⟩) (by assumption) ?_
      rotate_left
      · (intro w hSw; (try dsimp only at hSw); go_simp <;> with_reducible rfl)
      try walk_nrm
      refine wpAnyH_take (i := 7) (v := ?_) rfl (by kernel_rfl) (by kernel_rfl) (by kernel_rfl) (fun _ _ _ h => h) (Or.inl ⟨by rfl, ?_⟩) (by assumption) ?_
      rotate_left
      · (intro w hSw; (try dsimp only at hSw); go_simp <;> with_reducible rfl)
      try walk_nrm
      refine wpAnyH_take (i := 8) (v := ?_) rfl (by kernel_rfl) (by kernel_rfl) (by kernel_rfl) (fun _ _ _ h => h) (Or.inl ⟨by rfl, ?_⟩) (by assumption) ?_
      rotate_left
      · (intro w hSw; (try dsimp only at hSw); go_simp <;> with_reducible rfl)
      try walk_nrm
      refine wpAnyH_take (i := 12) (v := ?_) rfl (by kernel_rfl) (by kernel_rfl) (by kernel_rfl) (fun _ _ _ h => h) (Or.inl ⟨by rfl, ?_⟩) (by assumption) ?_
      rotate_left
      · (intro w hSw; (try dsimp only at hSw); go_simp <;> with_reducible rfl)
      try walk_nrm
      refine wpAnyH_take (i := 13) (v := ?_) rfl (by kernel_rfl) (by kernel_rfl) (by kernel_rfl) (fun _ _ _ h => h) (Or.inl ⟨by rfl, ?_⟩) (by assumption) ?_
      rotate_left
      · (intro w hSw; (try dsimp only at hSw); go_simp <;> with_reducible rfl)
      try walk_nrm
      refine wpAnyH_take (i := 14) (v := ?_) rfl (by kernel_rfl) (by kernel_rfl) (by kernel_rfl) (fun _ _ _ h => h) (Or.inl ⟨by rfl, ?_⟩) (by assumption) ?_
      rotate_left
      · (intro w hSw; (try dsimp only at hSw); go_simp <;> with_reducible rfl)
      try walk_nrm
      refine wpAnyH_take (i := 15) (v := ?_) rfl (by kernel_rfl) (by kernel_rfl) (by kernel_rfl) (fun _ _ _ h => h) (Or.inl ⟨by rfl, ?_⟩) (by assumption) ?_
      rotate_left
      · (intro w hSw; (try dsimp only at hSw); go_simp <;> with_reducible rfl)
      try walk_nrm
      refine wpAnyH_take (i := 16) (v := ?_) rfl (by kernel_rfl) (by kernel_rfl) (by kernel_rfl) (fun _ _ _ h => h) (Or.inl ⟨by rfl, ?_⟩) (by assumption) ?_
      rotate_left
      · (intro w hSw; (try dsimp only at hSw); go_simp <;> with_reducible rfl)
      try walk_nrm
      refine wpAnyH_ready (rs := [9]) (by kernel_rfl) (by simp) ?_
      refine AllReadyH.cons rfl (fun K hK => ?_) AllReadyH.nil
      · go_simp
        (go_at_call 39; (with_reducible refine (iFormatInt_any st _ (tabIs_bel HTB.out (by (repeat (first | assumption | exact Bel.refl _ | apply Bel.drewN | apply Bel.drew | apply Bel.alloc | refine Bel.trans ?_ (by assumption)))))).mono ?_); rintro e wt ⟨rfl, gt⟩; rw [HF0.out])
        try go_wp2_with fail
        refine hK.out _ _ ?_ (fun hHeld => ?_)
        · ((try dsimp only); (first | exact ⟨nm', HALL.out _ HB'⟩ | (with_reducible exact ⟨(HNM.out _ (by (repeat (first | assumption | exact Bel.refl _ | apply Bel.drewN | apply Bel.drew | apply Bel.alloc | refine Bel.trans ?_ (by assumption))))).1, HALL.out _ (by (repeat (first | assumption | exact Bel.refl _ | apply Bel.drewN | apply Bel.drew | apply Bel.alloc | refine Bel.trans ?_ (by assumption))))⟩) | exact ⟨(HNM.out _ (by (repeat (first | assumption | exact Bel.refl _ | apply Bel.drewN | apply Bel.drew | apply Bel.alloc | refine Bel.trans ?_ (by assumption))))).1, HALL.out _ (by (repeat (first | assumption | exact Bel.refl _ | apply Bel.drewN | apply Bel.drew | apply Bel.alloc | refine Bel.trans ?_ (by assumption))))⟩))
        clear hK K
        try walk_nrm
        refine wpAnyH_take (i := 10) (v := ?_) rfl (by kernel_rfl) (by kernel_rfl) (by kernel_rfl) (fun _ _ _ h => h) (Or.inl ⟨by rfl, ?_⟩) (by assumption) ?_
        rotate_left
        · (intro w hSw; (try dsimp only at hSw); go_simp <;> with_reducible rfl)
        try walk_nrm
        refine wpAnyH_take (i := 11) (v := ?_) rfl (by kernel_rfl) (by kernel_rfl) (by kernel_rfl) (fun _ _ _ h => h) (Or.inl ⟨by rfl, ?_⟩) (by assumption) ?_
        rotate_left
        · (intro w hSw; (try dsimp only at hSw); go_simp <;> with_reducible rfl)
        try walk_nrm
        refine wpAnyH_ready (rs := [17]) (by kernel_rfl) (by simp) ?_
        refine AllReadyH.cons rfl (fun K hK => ?_) AllReadyH.nil
        · go_simp
          (go_at_call 39; (with_reducible refine (iFormatInt_any md _ (tabIs_bel HTB.out (by (repeat (first | assumption | exact Bel.refl _ | apply Bel.drewN | apply Bel.drew | apply Bel.alloc | refine Bel.trans ?_ (by assumption)))))).mono ?_); rintro e wt ⟨rfl, gt⟩; rw [HF1.out])
          try go_wp2_with fail
          refine hK.out _ _ ?_ (fun hHeld => ?_)
          · ((try dsimp only); (first | exact ⟨nm', HALL.out _ HB'⟩ | (with_reducible exact ⟨(HNM.out _ (by (repeat (first | assumption | exact Bel.refl _ | apply Bel.drewN | apply Bel.drew | apply Bel.alloc | refine Bel.trans ?_ (by assumption))))).1, HALL.out _ (by (repeat (first | assumption | exact Bel.refl _ | apply Bel.drewN | apply Bel.drew | apply Bel.alloc | refine Bel.trans ?_ (by assumption))))⟩) | exact ⟨(HNM.out _ (by (repeat (first | assumption | exact Bel.refl _ | apply Bel.drewN | apply Bel.drew | apply Bel.alloc | refine Bel.trans ?_ (by assumption))))).1, HALL.out _ (by (repeat (first | assumption | exact Bel.refl _ | apply Bel.drewN | apply Bel.drew | apply Bel.alloc | refine Bel.trans ?_ (by assumption))))⟩))
          clear hK K
          try walk_nrm
          refine wpAnyH_take (i := 18) (v := ?_) rfl (by kernel_rfl) (by kernel_rfl) (by kernel_rfl) (fun _ _ _ h => h) (Or.inl ⟨by rfl, ?_⟩) (by assumption) ?_
          rotate_left
          · (intro w hSw; (try dsimp only at hSw); go_simp <;> with_reducible rfl)
          try walk_nrm
          refine wpAnyH_ready (rs := [19]) (by kernel_rfl) (by simp) ?_
          refine AllReadyH.cons rfl (fun K hK => ?_) AllReadyH.nil
          · go_simp
            refine hK.out _ _ ?_ (fun hHeld => ?_)
            · ((try dsimp only); (first | exact ⟨nm', HALL.out _ HB'⟩ | (with_reducible exact ⟨(HNM.out _ (by (repeat (first | assumption | exact Bel.refl _ | apply Bel.drewN | apply Bel.drew | apply Bel.alloc | refine Bel.trans ?_ (by assumption))))).1, HALL.out _ (by (repeat (first | assumption | exact Bel.refl _ | apply Bel.drewN | apply Bel.drew | apply Bel.alloc | refine Bel.trans ?_ (by assumption))))⟩) | exact ⟨(HNM.out _ (by (repeat (first | assumption | exact Bel.refl _ | apply Bel.drewN | apply Bel.drew | apply Bel.alloc | refine Bel.trans ?_ (by assumption))))).1, HALL.out _ (by (repeat (first | assumption | exact Bel.refl _ | apply Bel.drewN | apply Bel.drew | apply Bel.alloc | refine Bel.trans ?_ (by assumption))))⟩))
            clear hK K
            try walk_nrm
            refine wpAnyH_ready (rs := [20]) (by kernel_rfl) (by simp) ?_
            refine AllReadyH.cons rfl (fun K hK => ?_) AllReadyH.nil
            · (refine step_appG (o := ⟨some 41, _, _, _, _, _⟩) (n := 1) strR_goodJ _ (by rfl) _ _ 64 (by rfl) (.string ⟨#[]⟩) 16 Tryz.underlying64 (by kernel_rfl) rfl (by decide) (by decide) q cap ys (nm ++ ⟨#[64]⟩ ++ f0 ++ ⟨#[47]⟩ ++ f1) (by rfl) (hO.bel strR_goodJ (by (repeat (first | assumption | exact Bel.refl _ | apply Bel.drewN | apply Bel.drew | apply Bel.alloc | refine Bel.trans ?_ (by assumption))))) _ 1 [.string (nm ++ ⟨#[64]⟩ ++ f0 ++ ⟨#[47]⟩ ++ f1)] (by rfl) rfl (World.news_of_block (alloc_at (by first | rfl | (simp; done) | (simp; omega)))) (by intro u hu; simp at hu; subst hu; rfl) ⟨rfl, HSZ.out⟩ (by omega) (Bel.size (w := w1) (by (repeat (first | assumption | exact Bel.refl _ | apply Bel.drewN | apply Bel.drew | apply Bel.alloc | refine Bel.trans ?_ (by assumption))))) ?_; intro q' cap' wA hOA hBA hFA; have nm' : wA.cell? ⟨wr.heap.size, 0, none⟩ = some (.string nm) := (by rw [World.cell?_of_block (hFA _ (HNM.out _ (by (repeat (first | assumption | exact Bel.refl _ | apply Bel.drewN | apply Bel.drew | apply Bel.alloc | refine Bel.trans ?_ (by assumption))))).2 HQ.out).1]; exact (HNM.out _ (by (repeat (first | assumption | exact Bel.refl _ | apply Bel.drewN | apply Bel.drew | apply Bel.alloc | refine Bel.trans ?_ (by assumption))))).1); have HB' := Below.trans (show Bel w1 _ from (by (repeat (first | assumption | exact Bel.refl _ | apply Bel.drewN | apply Bel.drew | apply Bel.alloc | refine Bel.trans ?_ (by assumption))))) (Below.mono hBA (Nat.le_refl _)); clear hBA hFA)
              refine hK.out _ _ ?_ (fun hHeld => ?_)
              · ((try dsimp only); (first | exact ⟨nm', HALL.out _ HB'⟩ | (with_reducible exact ⟨(HNM.out _ (by (repeat (first | assumption | exact Bel.refl _ | apply Bel.drewN | apply Bel.drew | apply Bel.alloc | refine Bel.trans ?_ (by assumption))))).1, HALL.out _ (by (repeat (first | assumption | exact Bel.refl _ | apply Bel.drewN | apply Bel.drew | apply Bel.alloc | refine Bel.trans ?_ (by assumption))))⟩) | exact ⟨(HNM.out _ (by (repeat (first | assumption | exact Bel.refl _ | apply Bel.drewN | apply Bel.drew | apply Bel.alloc | refine Bel.trans ?_ (by assumption))))).1, HALL.out _ (by (repeat (first | assumption | exact Bel.refl _ | apply Bel.drewN | apply Bel.drew | apply Bel.alloc | refine Bel.trans ?_ (by assumption))))⟩))
              clear hK K
              try walk_nrm
              refine wpAnyH_take (i := 21) (v := ?_) rfl (by kernel_rfl) (by kernel_rfl) (by kernel_rfl) (fun _ _ _ h => h) (Or.inl ⟨by rfl, ?_⟩) (by assumption) ?_
              rotate_left
              · (intro w hSw; (try dsimp only at hSw); go_simp <;> with_reducible rfl)
              try walk_nrm
              refine wpAnyH_done (by kernel_rfl) ?_ _
              go_wp2_with fail
              exact ⟨⟨k + 1, q', cap', by omega, by go_num, by rw [HWD.out]; simp, by rw [HWD.out]; exact hOA, HB'⟩, by simp [intOf]; omega⟩
    · obtain rfl : k = p.2.1.length := by omega
      have HD := Lib.hid (hO.done (T := New w wr) strR_goodJ (fun b h _ => h.elim) (fun b h1 h2 => ⟨by have := G.size; omega, h2⟩))
      have HWS := Lib.hid (wordsTo_size (p := p) (s := s) (projOk_form HFO.out))
      have GB : Bel w wr := by (repeat (first | assumption | exact Bel.refl _ | apply Bel.drewN | apply Bel.drew | apply Bel.alloc | refine Bel.trans ?_ (by assumption)))
      clear hO HYL
      generalize (wordsTo p s p.2.1.length).length = nW at *
      go_wp2_with fail
      refine (iJoin_any _ (wordsTo p s p.2.1.length) _ (New w wr) wr HD.out (fun b hb => hb.2) HWS.out (by decide) (by rw [wordsTo_len]; omega)).mono ?_
      rintro e wj ⟨rfl, gj⟩
      go_wp2_with fail
      go_ret
      exact ⟨ret_str HF.out.symm, by (repeat (first | assumption | exact Bel.refl _ | apply Bel.drewN | apply Bel.drew | apply Bel.alloc | refine Bel.trans ?_ (by assumption)))⟩
theorem iFormatSchedule_any (v : Value) (p : ProjT) (S : Nat → Prop) (v1 : Value) (s : SchT) (T : Nat → Prop) (w : World) (hx : aggR projR S w v p) (hS : ∀ b, S b → b < w.heap.size) (_hn : bulkProject p ≤ 1048576) (hs : aggR schR T w v1 s) (hT : ∀ b, T b → b < w.heap.size) (_hn1 : bulkSchedule s ≤ 1048576) (htab : Lib.TabIs Tryz.prog w "internal/strconv.uint64pow10" .u64 Lib.pow10Tab) :
    Calls Tryz.prog 56 #[v, v1] w fun e w' => e = .returned (.string (fmtSchV p s)) ∧ Bel w w' := iFormatSchedule_all v p S v1 s T w hx hS hs hT htab

end Go.Proofs.YtkfpciggolkjeaaGreatDoor
