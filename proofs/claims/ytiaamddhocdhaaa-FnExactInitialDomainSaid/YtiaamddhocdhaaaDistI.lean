/- The distances, in the program. -/
import Derived.Test.YtiaamddhocdhaaaDistS
import Derived.Test.YtiaamddhocdhaaaDistF
namespace Go.Proofs.Ytiaamddhocdhaaa
open Go.ChangeShapes Go.WideShapes Go.ChangeAt Go.RowKit
set_option linter.unusedVariables false

theorem cell_drew {w : World} {a : Addr} {v : Value} (h : w.cell? a = some v) : w.drew.cell? a = some v := h
theorem cell_blk {w w' : World} {b k : Nat} {v : Value} (h : w.cell? ⟨b, k, none⟩ = some v) (hb : w'.heap[b]? = w.heap[b]?) : w'.cell? ⟨b, k, none⟩ = some v := by
  rw [World.cell?_of_block (w := w) (a := ⟨b, k, none⟩) hb]; exact h
theorem frozen_setF {w : World} {q : Addr} {u : Value} {b k : Nat} (h : w.frozen? ⟨b, k, none⟩ = false) : (w.setCell q u).frozen? ⟨b, k, none⟩ = false := by rw [frozen_set]; exact h
/-- What add leaves. -/
def AddRes (B n fb mb oF cF oM cM : Nat) (rF pF rM pM : Nat → Nat) (D : Nat → Nat → Int) (w : World) (e : Ending) (w' : World) : Prop := (∃ v, e = .returned v) ∧ FM B w' n n fb mb oF cF oM cM rF pF rM pM D ∧ w.heap.size ≤ w'.heap.size ∧ (∀ W, Bel W w → W.heap.size ≤ B → Bel W w') ∧ ∀ b, b < w.heap.size → ¬ GridB oF n rF b → ¬ GridB oM n rM b → w'.heap[b]? = w.heap[b]?
set_option maxRecDepth 100000 in
set_option maxHeartbeats 1000000 in
theorem iAdd_any (B n fb mb oF cF oM cM : Nat) (rF pF rM pM : Nat → Nat) (D : Nat → Nat → Int) (i k : Nat) (x : Int) (w : World) (h : FM B w n n fb mb oF cF oM cM rF pF rM pM D) (hi : i < n) (hk : k < n) (hn : n ≤ 6) (hx : x ≠ -1000) :
    Calls Try.prog 104 #[.int .i64 (i : Int), .int .i64 (k : Int), .int .i64 x, .pointer (some ⟨mb, 0, none⟩), .pointer (some ⟨fb, 0, none⟩)] w (AddRes B n fb mb oF cF oM cM rF pF rM pM (fun a b => if a = i ∧ b = k then addV (D i k) x else D a b) w) := by
  have HPUT := Lib.hid (fun (X : World) (hX : FM B X n n fb mb oF cF oM cM rF pF rM pM D) => hX.put hi hk hx)
  have HH := Lib.hid h
  have HSAME := Lib.hid (fun (e : addV (D i k) x = D i k) => h.congr (D' := fun a b => if a = i ∧ b = k then addV (D i k) x else D a b) (fun a b _ _ => by
    by_cases c : a = i ∧ b = k
    · obtain ⟨rfl, rfl⟩ := c
      simp [e]
    · simp [c]))
  have HBL := Lib.hid (fun (W : World) (hW : Bel W w) (hB : W.heap.size ≤ B) (u v : Value) => put_bel (k := k) h hW hB hi u v)
  have hF := h.bF
  have hM := h.bM
  obtain ⟨sf, -⟩ := h.gF.slot i hi
  obtain ⟨sm, -⟩ := h.gM.slot i hi
  obtain ⟨cf, cff⟩ := h.gF.cell i k hi hk
  obtain ⟨cm, cmf⟩ := h.gM.cell i k hi hk
  have hc := h.cap
  have n1 := fun e => (h.nF (rF i) (.inr ⟨i, hi, rfl⟩)).1 e
  have n1 : fb ≠ rF i := fun e => (h.nF (rF i) (.inr ⟨i, hi, rfl⟩)).1 e.symm
  have n2 : mb ≠ rF i := fun e => (h.nF (rF i) (.inr ⟨i, hi, rfl⟩)).2 e.symm
  have n3 : fb ≠ rM i := fun e => (h.nM (rM i) (.inr ⟨i, hi, rfl⟩)).1 e.symm
  have n4 : mb ≠ rM i := fun e => (h.nM (rM i) (.inr ⟨i, hi, rfl⟩)).2 e.symm
  have n5 : oF ≠ rF i := fun e => (h.gF.base i hi).2.2 e.symm
  have n6 : oM ≠ rM i := fun e => (h.gM.base i hi).2.2 e.symm
  have n7 : oF ≠ rM i := fun e => h.two _ (.inl rfl) (.inr ⟨i, hi, e⟩)
  have n8 : oM ≠ rF i := fun e => h.two _ (.inr ⟨i, hi, rfl⟩) (.inl e.symm)
  have n9 : rF i ≠ rM i := fun e => h.two _ (.inr ⟨i, hi, rfl⟩) (.inr ⟨i, hi, e⟩)
  have n10 : rM i ≠ rF i := fun e => n9 e.symm
  have HGF := Lib.hid (show GridB oF n rF (rF i) from .inr ⟨i, hi, rfl⟩)
  have HGM := Lib.hid (show GridB oM n rM (rM i) from .inr ⟨i, hi, rfl⟩)
  simp only [farV] at cf
  simp only [metV] at cm
  have hi6 : (i : Int) < (n : Int) := by omega
  have hk6 : (k : Int) < (n : Int) := by omega
  have hi0 : (0 : Int) ≤ (i : Int) := by omega
  have hk0 : (0 : Int) ≤ (k : Int) := by omega
  have hwi : IntKind.i64.wrap (i : Int) = (i : Int) := IntWalk.i64_in _ (by omega)
  have hwk : IntKind.i64.wrap (k : Int) = (k : Int) := IntWalk.i64_in _ (by omega)
  generalize hDE : D i k = d at *
  have HDE := Lib.hid hDE
  generalize rF i = RF at *
  generalize rM i = RM at *
  generalize pF i = CF at *
  generalize pM i = CM at *
  clear h hDE
  have hc2 := hc.2
  unfold maxLen at hc2
  have hfin : ∀ u v : Value, ∀ b, b < w.heap.size → ¬ GridB oF n rF b → ¬ GridB oM n rM b → ((w.setCell ⟨RF, k, none⟩ u).setCell ⟨RM, k, none⟩ v).heap[b]? = w.heap[b]? := fun u v b hb h1 h2 => by
    rw [Below.heap_setCell _ _ _ _ (fun e => h2 (by rw [show b = RM from e]; exact HGM.out)), Below.heap_setCell _ _ _ _ (fun e => h1 (by rw [show b = RF from e]; exact HGF.out))]
  have HFIN := Lib.hid hfin
  clear hfin
  go_enter Try.func104, Try.ntmps104
  by_cases hd : d = -1000
  · subst hd
    have HV := Lib.hid (show addV (-1000) x = x from by unfold addV; rw [if_pos (.inl rfl)])
    simp at cm
    go_upto_region 1 with (fail)
    go_region_held3 (fun W => W.cell? ⟨fb, 0, none⟩ = some (.slice (some ⟨oF, 0, none⟩) n cF) ∧ W.cell? ⟨mb, 0, none⟩ = some (.slice (some ⟨oM, 0, none⟩) n cM) ∧ W.cell? ⟨oF, i, none⟩ = some (.slice (some ⟨RF, 0, none⟩) n CF) ∧ W.cell? ⟨oM, i, none⟩ = some (.slice (some ⟨RM, 0, none⟩) n CM)) (refine ⟨?_, ?_, ?_, ?_⟩ <;> (repeat (first | assumption | (with_reducible refine cell_setAt ?_ (by assumption) _) | (with_reducible refine cell_drew ?_)))) (fail)
    all_goals (go_wp2_with fail; go_end0; exact ⟨⟨_, rfl⟩, by rw [HV.out]; exact (HPUT.out w HH.out).bel (Bel.drew (Bel.refl _)), by simp, fun W hW hB => (HBL.out W hW hB _ _).drew, fun b hb h1 h2 => HFIN.out _ _ b hb h1 h2⟩)
  simp only [fz, if_neg hd] at cf
  simp only [decide_eq_false hd, Bool.not_false] at cm
  by_cases hlt : d < x
  · have HV := Lib.hid (show addV d x = x from by unfold addV; rw [if_pos (.inr hlt)])
    go_upto_region 1 with (fail)
    go_region_held3 (fun W => W.cell? ⟨fb, 0, none⟩ = some (.slice (some ⟨oF, 0, none⟩) n cF) ∧ W.cell? ⟨mb, 0, none⟩ = some (.slice (some ⟨oM, 0, none⟩) n cM) ∧ W.cell? ⟨oF, i, none⟩ = some (.slice (some ⟨RF, 0, none⟩) n CF) ∧ W.cell? ⟨oM, i, none⟩ = some (.slice (some ⟨RM, 0, none⟩) n CM)) (refine ⟨?_, ?_, ?_, ?_⟩ <;> (repeat (first | assumption | (with_reducible refine cell_setAt ?_ (by assumption) _) | (with_reducible refine cell_drew ?_)))) (fail)
    all_goals (go_wp2_with fail; go_end0; exact ⟨⟨_, rfl⟩, by rw [HV.out]; exact (HPUT.out w HH.out).bel (Bel.drew (Bel.refl _)), by simp, fun W hW hB => (HBL.out W hW hB _ _).drew, fun b hb h1 h2 => HFIN.out _ _ b hb h1 h2⟩)
  have HV := Lib.hid (show addV d x = d from by unfold addV; rw [if_neg (by intro h; rcases h with h | h; exact hd h; exact hlt h)])
  have hle : x ≤ d := by omega
  go_wp2
  go_end0
  exact ⟨⟨_, rfl⟩, HSAME.out HV.out, Nat.le_refl _, fun W hW hB => hW, fun b hb h1 h2 => rfl⟩

set_option maxRecDepth 100000 in
set_option maxHeartbeats 4000000 in
theorem iDistances_any (v : Value) (p : ProjT) (S : Nat → Prop) (w : World) (hx : aggR projR S w v p) (hS : ∀ b, S b → b < w.heap.size) (_hn : bulkProject p ≤ 1048576) : Calls Try.prog 38 #[v] w (DistRes p w) := by
  have mk1 := fun n hb h63 W => run_make_row' (P := Try.prog) 63 25 (.slice none 0 0) 24 Try.underlying63 (by kernel_rfl) rfl .i64 .i64 n hb h63 W
  have mk2 := fun n hb h63 W => run_make_row' (P := Try.prog) 136 137 (.slice none 0 0) 24 Try.underlying136 (by kernel_rfl) rfl .i64 .i64 n hb h63 W
  have mk3 := fun n hb h63 W => run_make_row' (P := Try.prog) 25 3 (.int .i64 0) 8 Try.underlying25 (by kernel_rfl) rfl .i64 .i64 n hb h63 W
  have mk4 := fun n hb h63 W => run_make_row' (P := Try.prog) 137 4 (.bool false) 1 Try.underlying137 (by kernel_rfl) rfl .i64 .i64 n hb h63 W
  obtain ⟨cs, rfl, hx⟩ := hx
  obtain ⟨c1, c2, c3, c4, rfl, q0, q1, q2, q3, q4⟩ := projR_open hx
  have Q1 := Lib.hid q1
  have Q2 := Lib.hid q2
  have Q3 := Lib.hid q3
  have Q4 := Lib.hid q4
  have HP := Lib.hid hx
  obtain ⟨p1, k1, rfl, l1, l1', -⟩ := sliceR_open q1
  obtain ⟨p2, k2, rfl, l2, l2', -⟩ := sliceR_open q2
  obtain ⟨p3, k3, rfl, l3, l3', -⟩ := sliceR_open q3
  obtain ⟨p4, k4, rfl, l4, l4', -⟩ := sliceR_open q4
  unfold maxLen at l1' l2' l3' l4'
  clear hx q0 q1 q2 q3 q4
  have HS := Lib.hid hS
  have HNB := Lib.hid _hn
  clear hS _hn
  have HP1 := Lib.hid (show ∀ W, Bel w W → aggR projR S W (.agg #[.int .i64 p.1, .slice p1 p.2.1.length k1, .slice p2 p.2.2.1.length k2, .slice p3 p.2.2.2.1.length k3, .slice p4 p.2.2.2.2.length k4]) p from fun W hW => aggR_mk (projR_good.bel HP.out hW HS.out))
  show Calls Try.prog 38 #[.agg #[.int .i64 p.1, .slice p1 p.2.1.length k1, .slice p2 p.2.2.1.length k2, .slice p3 p.2.2.2.1.length k3, .slice p4 p.2.2.2.2.length k4]] w _
  go_enter Try.func38, Try.ntmps38
  obtain ⟨W0, hW0, hwW, hsz0, hbx⟩ : ∃ W0, W0 = w.alloc (.cells #[.int .i64 p.1, .slice p1 p.2.1.length k1, .slice p2 p.2.2.1.length k2, .slice p3 p.2.2.2.1.length k3, .slice p4 p.2.2.2.2.length k4] 34) ∧ Bel w W0 ∧ W0.heap.size = w.heap.size + 1 ∧ W0.cell? ⟨w.heap.size, 0, none⟩ = some (.int .i64 p.1) ∧ W0.cell? ⟨w.heap.size, 1, none⟩ = some (.slice p1 p.2.1.length k1) ∧ W0.cell? ⟨w.heap.size, 2, none⟩ = some (.slice p2 p.2.2.1.length k2) ∧ W0.cell? ⟨w.heap.size, 3, none⟩ = some (.slice p3 p.2.2.2.1.length k3) ∧ W0.cell? ⟨w.heap.size, 4, none⟩ = some (.slice p4 p.2.2.2.2.length k4) := ⟨_, rfl, by (repeat (first | assumption | exact Bel.refl _ | apply Bel.drewN | apply Bel.drew | apply Bel.alloc | refine Bel.trans ?_ (by assumption))), by simp, by simp [go_sem], by simp [go_sem], by simp [go_sem], by simp [go_sem], by simp [go_sem]⟩
  have HBX := Lib.hid (show ∀ W, Bel W0 W → W.cell? ⟨w.heap.size, 0, none⟩ = some (.int .i64 p.1) ∧ W.cell? ⟨w.heap.size, 1, none⟩ = some (.slice p1 p.2.1.length k1) ∧ W.cell? ⟨w.heap.size, 2, none⟩ = some (.slice p2 p.2.2.1.length k2) ∧ W.cell? ⟨w.heap.size, 3, none⟩ = some (.slice p3 p.2.2.2.1.length k3) ∧ W.cell? ⟨w.heap.size, 4, none⟩ = some (.slice p4 p.2.2.2.2.length k4) from fun W hW => keep5 hbx hW)
  clear hbx
  have hB0 : W0.heap.size ≤ w.heap.size + 1 := by omega
  have hB00 : w.heap.size ≤ W0.heap.size := by omega
  have HSZ0 := Lib.hid hsz0
  clear hsz0
  go_wp2_with fail
  rw [← hW0]
  clear hW0
  refine (iProjectOk_any _ p S _ (HP1.out _ (by (repeat (first | assumption | exact Bel.refl _ | apply Bel.drewN | apply Bel.drew | apply Bel.alloc | refine Bel.trans ?_ (by assumption))))) (fun b hb => Nat.lt_of_lt_of_le (HS.out b hb) (Bel.size (by (repeat (first | assumption | exact Bel.refl _ | apply Bel.drewN | apply Bel.drew | apply Bel.alloc | refine Bel.trans ?_ (by assumption))))))).mono ?_
  rintro e w1 ⟨rfl, g1⟩
  have G1 : Bel W0 w1 := by (repeat (first | assumption | exact Bel.refl _ | apply Bel.drewN | apply Bel.drew | apply Bel.alloc | refine Bel.trans ?_ (by assumption)))
  cases hp : projOk p
  · have HV := Lib.hid (show ¬ (projOk p = true ∧ (netOf p).posF = []) from by rw [hp]; rintro ⟨h, _⟩; cases h)
    clear hp
    go_wp2
    go_ret
    exact .inl ⟨HV.out, rfl, by (repeat (first | assumption | exact Bel.refl _ | apply Bel.drewN | apply Bel.drew | apply Bel.alloc | refine Bel.trans ?_ (by assumption)))⟩
  have HPO := Lib.hid hp
  have HF := Lib.hid (netOf_fine hp)
  have HPV := Lib.hid (posV_ok hp)
  clear hp
  obtain ⟨b0, b1, b2, b3, b4⟩ := HBX.out w1 G1
  go_wp2_with fail
  clear b0 b1 b2 b3 b4
  refine (iPositiveCycle_any _ p S _ (HP1.out _ (by (repeat (first | assumption | exact Bel.refl _ | apply Bel.drewN | apply Bel.drew | apply Bel.alloc | refine Bel.trans ?_ (by assumption))))) (fun b hb => Nat.lt_of_lt_of_le (HS.out b hb) (Bel.size (by (repeat (first | assumption | exact Bel.refl _ | apply Bel.drewN | apply Bel.drew | apply Bel.alloc | refine Bel.trans ?_ (by assumption)))))) HNB.out).mono ?_
  rintro e w2 ⟨vr, rfl, hr, g2⟩
  have G2 : Bel W0 w2 := by (repeat (first | assumption | exact Bel.refl _ | apply Bel.drewN | apply Bel.drew | apply Bel.alloc | refine Bel.trans ?_ (by assumption)))
  have HRV := Lib.hid hr
  obtain ⟨rp, rk, rfl, rl, rl', -⟩ := sliceR_open hr
  unfold maxLen at rl'
  by_cases hpos : posV p = []
  rotate_left
  · have HV := Lib.hid (show ¬ (projOk p = true ∧ (netOf p).posF = []) from by
      rintro ⟨_, h⟩
      exact hpos (by rw [HPV.out, h]; rfl))
    have hl := List.length_pos_iff.2 hpos
    have hli : (0 : Int) < ((posV p).length : Int) := by omega
    clear hr hpos
    go_wp2
    go_ret
    exact .inl ⟨HV.out, rfl, by (repeat (first | assumption | exact Bel.refl _ | apply Bel.drewN | apply Bel.drew | apply Bel.alloc | refine Bel.trans ?_ (by assumption)))⟩
  have HPN := Lib.hid (show (netOf p).posF = [] from by
    have h := HPV.out
    rw [hpos] at h
    cases hh : (netOf p).posF with
    | nil => rfl
    | cons a t => rw [hh] at h; simp [nI] at h)
  have HN := Lib.hid ((netOf p).posF_none HF.out HPN.out)
  rw [hpos]
  clear hr hpos rl
  obtain ⟨b0, b1, b2, b3, b4⟩ := HBX.out w2 G2
  have hpl := (projOk_bd HPO.out).2.1
  have hp1 := (projOk_bd HPO.out).1
  have hk12 : p.2.2.1.length ≤ 12 := (projOk_bd HPO.out).2.2.2.2.1
  have mk1 := mk1 p.2.1.length (by omega) (by omega)
  have mk2 := mk2 p.2.1.length (by omega) (by omega)
  have mk3 := mk3 p.2.1.length (by omega) (by omega)
  have mk4 := mk4 p.2.1.length (by omega) (by omega)
  obtain ⟨Wa, hWa⟩ : ∃ W, W = w2 := ⟨w2, rfl⟩
  subst hWa
  go_upto_region 4 with (fail)
  clear b0 b1 b2 b3 b4
  have HMX := Lib.hid (show p.2.1.length ≤ maxLen from by unfold maxLen; omega)
  go_cut [4, 5] (fun s4 s5 wx => CutF Wa.heap.size p.2.1.length (dist0 (netOf p) 0) Wa s4 s5 wx)
  case first =>
    go_region_held3 (fun W => Bel Wa W) (repeat (first | assumption | exact Bel.refl _ | apply Bel.drewN | apply Bel.drew | apply Bel.alloc | (refine Bel.set ?_ (by first | exact Nat.le_refl _ | (simp; omega) | omega) _) | refine Bel.trans ?_ (by assumption))) (fail)
    all_goals (go_wp2_with fail; go_meet; exact ⟨_, _, _, _, rfl, rfl, FM.start2 (e1 := 25) (e2 := 137) (by (repeat (first | (with_reducible refine alloc_at ?_; first | (with_reducible rfl) | (simp; done)) | (with_reducible refine drew_keep ?_) | (with_reducible refine alloc_keep ?_)))) (by (repeat (first | (with_reducible refine alloc_at ?_; first | (with_reducible rfl) | (simp; done)) | (with_reducible refine drew_keep ?_) | (with_reducible refine alloc_keep ?_)))) (by (repeat (first | (with_reducible refine rowIs_made' ?_; first | (with_reducible rfl) | (simp; done)) | (with_reducible refine World.rowIs.drew ?_) | (with_reducible refine World.rowIs.alloc ?_ _)))) (by (repeat (first | (with_reducible refine rowIs_made' ?_; first | (with_reducible rfl) | (simp; done)) | (with_reducible refine World.rowIs.drew ?_) | (with_reducible refine World.rowIs.alloc ?_ _)))) (by first | (simp; done) | omega) (by first | (simp; done) | omega) (by first | (simp; done) | omega) (by first | (simp; done) | omega) (by first | (simp; done) | omega) (by first | (simp; done) | omega) (by first | (simp; done) | omega) HMX.out _, by (repeat (first | assumption | exact Bel.refl _ | apply Bel.drewN | apply Bel.drew | apply Bel.alloc | refine Bel.trans ?_ (by assumption)))⟩)
  case rest =>
    obtain ⟨fb, mb, oF, oM, rfl, rfl, hFM, hBc⟩ := hcut
    clear mk1 mk2
    have hfm : ∃ rF pF rM pM, FM Wa.heap.size wc 0 p.2.1.length fb mb oF p.2.1.length oM p.2.1.length rF pF rM pM (dist0 (netOf p) 0) := ⟨_, _, _, _, hFM⟩
    clear hFM
    have G3 : Bel W0 wc := G2.trans hBc
    go_wp2_with fail
    go_loopw [32] (fun i wr => ∃ (N : Nat), N ≤ p.2.1.length ∧ i = .int .i64 N ∧ (∃ rF pF rM pM, FM Wa.heap.size wr N p.2.1.length fb mb oF p.2.1.length oM p.2.1.length rF pF rM pM (dist0 (netOf p) 0)) ∧ Bel Wa wr) (fun i _ => p.2.1.length - (intOf i).toNat)
    case atStart => exact ⟨0, Nat.zero_le _, rfl, hfm, hBc⟩
    case round =>
      clear hfm
      obtain ⟨N, hN, rfl, ⟨rF, pF, rM, pM, hFM⟩, hB1⟩ := hrel
      have HFM := Lib.hid hFM
      by_cases hlt : N < p.2.1.length
      · have hF := hFM.bF
        have hM := hFM.bM
        have HLT := Lib.hid hlt
        have HD0 := Lib.hid (show ∀ b, dist0 (netOf p) 0 N b = if b = N then 0 else -1000 from fun b => by
          show (if N = b then (0 : Int) else -1000) = _
          by_cases e : N = b
          · rw [if_pos e, if_pos e.symm]
          · rw [if_neg e, if_neg (fun h => e h.symm)])
        have slF := hFM.sF N (Nat.le_refl _) hlt
        have slM := hFM.sM N (Nat.le_refl _) hlt
        have b1 : wr.heap.size ≤ wr.heap.size + 1 := Nat.le_succ _
        have zF := hFM.gF.top.2
        have zM := hFM.gM.top.2
        have fF := fun (o1 o2 : Obj) => cell_keep slF ((((Bel.refl wr).alloc o1).alloc o2).block zF)
        have fM := fun (o1 o2 : Obj) => cell_keep slM ((((Bel.refl wr).alloc o1).alloc o2).block zM)
        have fF1 := fun o1 o2 => (fF o1 o2).1
        have fF2 := fun o1 o2 => (fF o1 o2).2
        have fM1 := fun o1 o2 => (fM o1 o2).1
        have fM2 := fun o1 o2 => (fM o1 o2).2
        obtain ⟨slF1, slF2⟩ := slF
        obtain ⟨slM1, slM2⟩ := slM
        clear fF fM b1
        have n1 : fb ≠ oF := fun e => (hFM.nF oF (.inl rfl)).1 e.symm
        have n2 : mb ≠ oF := fun e => (hFM.nF oF (.inl rfl)).2 e.symm
        have n3 : fb ≠ oM := fun e => (hFM.nM oM (.inl rfl)).1 e.symm
        have n4 : mb ≠ oM := fun e => (hFM.nM oM (.inl rfl)).2 e.symm
        have n5 : oF ≠ oM := fun e => hFM.two oF (.inl rfl) (.inl e)
        have n6 : oM ≠ oF := fun e => n5 e.symm
        have hNi : (N : Int) < (p.2.1.length : Int) := by omega
        have hN0 : (0 : Int) ≤ (N : Int) := by omega
        have hwN : IntKind.i64.wrap (N : Int) = (N : Int) := IntWalk.i64_in _ (by omega)
        clear hFM
        go_upto_region 8 with (fail)
        go_cut [] (fun wx => CutRow Wa.heap.size N p.2.1.length fb mb oF p.2.1.length oM p.2.1.length (dist0 (netOf p) 0) Wa wx)
        case first =>
          go_region_held3 (fun W => W.cell? ⟨fb, 0, none⟩ = some (.slice (some ⟨oF, 0, none⟩) p.2.1.length p.2.1.length) ∧ W.cell? ⟨mb, 0, none⟩ = some (.slice (some ⟨oM, 0, none⟩) p.2.1.length p.2.1.length)) (refine ⟨?_, ?_⟩ <;> (repeat (first | assumption | (with_reducible refine cell_setAt ?_ (by assumption) _) | (with_reducible refine cell_drew ?_) | (with_reducible refine cell_alloc ?_ _)))) (fail)
          all_goals (go_wp2_with fail; go_meet; exact cutRow_of2 (e1 := 3) (e2 := 4) HFM.out HLT.out HMX.out (by first | (simp; done) | (simp; omega) | omega) (by first | (simp; done) | (simp; omega) | omega) (by first | (simp; done) | (simp; omega) | omega) (by (repeat (first | (with_reducible refine rowIs_made' ?_; first | (with_reducible rfl) | (simp; done)) | (with_reducible refine World.rowIs.drew ?_) | (with_reducible refine World.rowIs.alloc ?_ _)))) (by (repeat (first | (with_reducible refine rowIs_made' ?_; first | (with_reducible rfl) | (simp; done)) | (with_reducible refine World.rowIs.drew ?_) | (with_reducible refine World.rowIs.alloc ?_ _)))) HD0.out hB1 (Nat.le_refl _))
        case rest =>
          clear fF1 fF2 fM1 fM2 hF hM slF1 slF2 slM1 slM2
          obtain ⟨m, ⟨y1, y2, y3, y4⟩, hFX, hBX⟩ := hcut
          have HFX := Lib.hid hFX
          clear hFX
          go_wp2
          go_roundw
          case rel => exact ⟨N + 1, by omega, by go_num, HFX.out, hBX⟩
          case measure => simp [intOf]; omega
      · obtain rfl : N = p.2.1.length := by omega
        clear HFM hlt mk3 mk4
        obtain ⟨Wb, hWb⟩ : ∃ W, W = wr := ⟨wr, rfl⟩
        subst hWb
        have HTWO := Lib.hid (And.intro hFM.two (And.intro hFM.nF hFM.nM))
        have G4 : Bel W0 Wb := G2.trans hB1
        obtain ⟨b0, b1, b2, b3, b4⟩ := HBX.out Wb G4
        go_wp2_with fail
        clear b0 b1 b2 b3 b4
        go_loopw [56] (fun i wr => ∃ t : Nat, t ≤ p.2.2.1.length ∧ i = .int .i64 t ∧ FM Wa.heap.size wr p.2.1.length p.2.1.length fb mb oF p.2.1.length oM p.2.1.length rF pF rM pM (dist0 (netOf p) t) ∧ Bel Wa wr) (fun i _ => p.2.2.1.length - (intOf i).toNat)
        case atStart => exact ⟨0, Nat.zero_le _, rfl, hFM, hB1⟩
        case round =>
          clear hFM
          obtain ⟨t, ht, rfl, hFM, hB2⟩ := hrel
          have G5 : Bel W0 wr := G2.trans hB2
          have hBr : Bel w wr := hwW.trans G5
          obtain ⟨b0, b1, b2, b3, b4⟩ := HBX.out wr G5
          by_cases hlt : t < p.2.2.1.length
          · obtain ⟨nk1, nk2, nk3, nk4, -, ng0, ng1⟩ := netOf_at HPO.out hlt
            obtain ⟨lb, lo, ea, lk0, lk1, lk2, lk3⟩ := link_at Q2.out hlt
            obtain rfl : p2 = some ⟨lb, lo, none⟩ := ea
            rw [nk1] at lk0
            rw [nk2] at lk1
            have lk0 := hBr.cell lk0
            have lk1 := hBr.cell lk1
            have lk2 := hBr.cell lk2
            have lk3 := hBr.cell lk3
            have HLT := Lib.hid hlt
            have HGB := Lib.hid (show ∀ b, GridB oF p.2.1.length rF b ∨ GridB oM p.2.1.length rM b → Wa.heap.size ≤ b ∧ b < wr.heap.size from fun b hb => by
              rcases hb with hb | hb
              · exact hFM.gF.lt hb
              · exact hFM.gM.lt hb)
            have HADD := Lib.hid (show ∀ W, Bel wr W → Calls Try.prog 104 #[.int .i64 (((netOf p).fr t : Nat) : Int), .int .i64 (((netOf p).to t : Nat) : Int), .int .i64 ((netOf p).gp t), .pointer (some ⟨mb, 0, none⟩), .pointer (some ⟨fb, 0, none⟩)] W (AddRes Wa.heap.size p.2.1.length fb mb oF p.2.1.length oM p.2.1.length rF pF rM pM (fun a b => if a = (netOf p).fr t ∧ b = (netOf p).to t then addV (dist0 (netOf p) t ((netOf p).fr t) ((netOf p).to t)) ((netOf p).gp t) else dist0 (netOf p) t a b) W) from fun W hW => iAdd_any _ _ _ _ _ _ _ _ _ _ _ _ _ _ _ _ W (hFM.bel hW) nk3 nk4 hpl (by omega))
            have HUP := Lib.hid (fun (X : World) (h : FM Wa.heap.size X p.2.1.length p.2.1.length fb mb oF p.2.1.length oM p.2.1.length rF pF rM pM (fun a b => if a = (netOf p).fr t ∧ b = (netOf p).to t then addV (dist0 (netOf p) t ((netOf p).fr t) ((netOf p).to t)) ((netOf p).gp t) else dist0 (netOf p) t a b)) => h.link ng0)
            have HGAP := Lib.hid (show ∀ W, Bel w W → Calls Try.prog 97 #[.agg #[.int .i64 p.1, .slice p1 p.2.1.length k1, .slice (some ⟨lb, lo, none⟩) p.2.2.1.length k2, .slice p3 p.2.2.2.1.length k3, .slice p4 p.2.2.2.2.length k4], .agg #[.int .i64 (((netOf p).fr t : Nat) : Int), .int .i64 (((netOf p).to t : Nat) : Int), .bool (p.2.2.1.getD t zLink).2.2.1, .int .i64 (p.2.2.1.getD t zLink).2.2.2]] W (fun e w' => e = .returned (.int .i64 ((netOf p).gp t)) ∧ Bel W w') from fun W hW => by
              have h := fullGap_any _ p S (p.2.2.1.getD t zLink) W (HP1.out W hW) (fun b hb => Nat.lt_of_lt_of_le (HS.out b hb) (Bel.size hW)) HPO.out (projOk_link HPO.out HLT.out)
              rw [nk1, nk2] at h
              exact h)
            generalize dist0 (netOf p) t ((netOf p).fr t) ((netOf p).to t) = DD at *
            generalize (netOf p).gp t = GK at *
            generalize (netOf p).fr t = FR at *
            generalize (netOf p).to t = TO at *
            generalize p.2.2.1.getD t zLink = X at *
            clear nk1 nk2 hFM
            have hFR : (FR : Int) < (p.2.1.length : Int) := by omega
            have hTO : (TO : Int) < (p.2.1.length : Int) := by omega
            obtain ⟨W2, hW2, hB22, HSZ2, hl0, hl1, hl2, hl3⟩ : ∃ W2, W2 = wr.alloc (.cells #[.int .i64 (FR : Int), .int .i64 (TO : Int), .bool X.2.2.1, .int .i64 X.2.2.2] 70) ∧ Bel wr W2 ∧ Hid (W2.heap.size = wr.heap.size + 1) ∧ W2.cell? ⟨wr.heap.size, 0, none⟩ = some (.int .i64 (FR : Int)) ∧ W2.cell? ⟨wr.heap.size, 1, none⟩ = some (.int .i64 (TO : Int)) ∧ W2.cell? ⟨wr.heap.size, 2, none⟩ = some (.bool X.2.2.1) ∧ W2.cell? ⟨wr.heap.size, 3, none⟩ = some (.int .i64 X.2.2.2) := ⟨_, rfl, (Bel.refl _).alloc _, Lib.hid (by simp), by simp [go_sem], by simp [go_sem], by simp [go_sem], by simp [go_sem]⟩
            have hB20 : Bel W0 W2 := G5.trans hB22
            have hBw2 : Bel w W2 := hwW.trans hB20
            have hBa2 : Bel Wa W2 := hB2.trans hB22
            have HKP := Lib.hid (show ∀ W, Bel W2 W → W.cell? ⟨w.heap.size, 0, none⟩ = some (.int .i64 p.1) ∧ W.cell? ⟨w.heap.size, 1, none⟩ = some (.slice p1 p.2.1.length k1) ∧ W.cell? ⟨w.heap.size, 2, none⟩ = some (.slice (some ⟨lb, lo, none⟩) p.2.2.1.length k2) ∧ W.cell? ⟨w.heap.size, 3, none⟩ = some (.slice p3 p.2.2.2.1.length k3) ∧ W.cell? ⟨w.heap.size, 4, none⟩ = some (.slice p4 p.2.2.2.2.length k4) ∧ W.cell? ⟨wr.heap.size, 0, none⟩ = some (.int .i64 (FR : Int)) ∧ W.cell? ⟨wr.heap.size, 1, none⟩ = some (.int .i64 (TO : Int)) ∧ W.cell? ⟨wr.heap.size, 2, none⟩ = some (.bool X.2.2.1) ∧ W.cell? ⟨wr.heap.size, 3, none⟩ = some (.int .i64 X.2.2.2) from fun W hW => by
              obtain ⟨b0, b1, b2, b3, b4⟩ := HBX.out W (hB20.trans hW)
              exact ⟨b0, b1, b2, b3, b4, hW.cell hl0, hW.cell hl1, hW.cell hl2, hW.cell hl3⟩)
            have HK2 := Lib.hid (show ∀ V W' : World, Bel W2 V → (∀ b, b < V.heap.size → ¬ GridB oF p.2.1.length rF b → ¬ GridB oM p.2.1.length rM b → W'.heap[b]? = V.heap[b]?) → (fun W : World => W.cell? ⟨w.heap.size, 0, none⟩ = some (.int .i64 p.1) ∧ W.cell? ⟨w.heap.size, 1, none⟩ = some (.slice p1 p.2.1.length k1) ∧ W.cell? ⟨w.heap.size, 2, none⟩ = some (.slice (some ⟨lb, lo, none⟩) p.2.2.1.length k2) ∧ W.cell? ⟨w.heap.size, 3, none⟩ = some (.slice p3 p.2.2.2.1.length k3) ∧ W.cell? ⟨w.heap.size, 4, none⟩ = some (.slice p4 p.2.2.2.2.length k4) ∧ W.cell? ⟨wr.heap.size, 0, none⟩ = some (.int .i64 (FR : Int)) ∧ W.cell? ⟨wr.heap.size, 1, none⟩ = some (.int .i64 (TO : Int)) ∧ W.cell? ⟨wr.heap.size, 2, none⟩ = some (.bool X.2.2.1) ∧ W.cell? ⟨wr.heap.size, 3, none⟩ = some (.int .i64 X.2.2.2)) W' from fun V W' hV hk => by
              obtain ⟨b0, b1, b2, b3, b4, d0, d1, d2, d3⟩ := HKP.out V hV
              have s1 := hV.size
              have s2 := HSZ2.out
              have s3 := HSZ0.out
              have s4 := G2.size
              have s5 := hB2.size
              have e1 := hk w.heap.size (by omega) (fun h => by have := HGB.out _ (.inl h); omega) (fun h => by have := HGB.out _ (.inr h); omega)
              have e2 := hk wr.heap.size (by omega) (fun h => by have := HGB.out _ (.inl h); omega) (fun h => by have := HGB.out _ (.inr h); omega)
              exact ⟨cell_blk b0 e1, cell_blk b1 e1, cell_blk b2 e1, cell_blk b3 e1, cell_blk b4 e1, cell_blk d0 e2, cell_blk d1 e2, cell_blk d2 e2, cell_blk d3 e2⟩)
            clear hl0 hl1 hl2 hl3
            go_upto_region 15 with (fail)
            rw [← hW2]
            clear hW2 b0 b1 b2 b3 b4
            go_region_held3 (fun W => W.cell? ⟨w.heap.size, 0, none⟩ = some (.int .i64 p.1) ∧ W.cell? ⟨w.heap.size, 1, none⟩ = some (.slice p1 p.2.1.length k1) ∧ W.cell? ⟨w.heap.size, 2, none⟩ = some (.slice (some ⟨lb, lo, none⟩) p.2.2.1.length k2) ∧ W.cell? ⟨w.heap.size, 3, none⟩ = some (.slice p3 p.2.2.2.1.length k3) ∧ W.cell? ⟨w.heap.size, 4, none⟩ = some (.slice p4 p.2.2.2.2.length k4) ∧ W.cell? ⟨wr.heap.size, 0, none⟩ = some (.int .i64 (FR : Int)) ∧ W.cell? ⟨wr.heap.size, 1, none⟩ = some (.int .i64 (TO : Int)) ∧ W.cell? ⟨wr.heap.size, 2, none⟩ = some (.bool X.2.2.1) ∧ W.cell? ⟨wr.heap.size, 3, none⟩ = some (.int .i64 X.2.2.2)) (first | exact hS2 | exact HKP.out _ (by (repeat (first | assumption | exact Bel.refl _ | apply Bel.drewN | apply Bel.drew | apply Bel.alloc | refine Bel.trans ?_ (by assumption)))))
              (first | (go_at_call 97; (with_reducible refine (HGAP.out _ (by (repeat (first | assumption | exact Bel.refl _ | apply Bel.drewN | apply Bel.drew | apply Bel.alloc | refine Bel.trans ?_ (by assumption))))).mono ?_); rintro e wg ⟨rfl, gG⟩; have hwg := Bel.trans (a := wr) (by (repeat (first | assumption | exact Bel.refl _ | apply Bel.drewN | apply Bel.drew | apply Bel.alloc | refine Bel.trans ?_ (by assumption)))) gG; have hwga := Bel.trans (a := Wa) (by (repeat (first | assumption | exact Bel.refl _ | apply Bel.drewN | apply Bel.drew | apply Bel.alloc | refine Bel.trans ?_ (by assumption)))) gG; have hwg2 := Bel.trans (a := W2) (by (repeat (first | assumption | exact Bel.refl _ | apply Bel.drewN | apply Bel.drew | apply Bel.alloc | refine Bel.trans ?_ (by assumption)))) gG) | (go_at_call 104; (with_reducible refine (HADD.out _ (by (repeat (first | assumption | exact Bel.refl _ | apply Bel.drewN | apply Bel.drew | apply Bel.alloc | refine Bel.trans ?_ (by assumption))))).mono ?_); rintro e wq ⟨⟨vq, rfl⟩, hFq, hsq, hbq, hkq⟩; have hS2 := HK2.out _ _ (by (repeat (first | assumption | exact Bel.refl _ | apply Bel.drewN | apply Bel.drew | apply Bel.alloc | refine Bel.trans ?_ (by assumption)))) hkq; have hFq := Lib.hid (HUP.out _ hFq); have hbq := hbq Wa (by (repeat (first | assumption | exact Bel.refl _ | apply Bel.drewN | apply Bel.drew | apply Bel.alloc | refine Bel.trans ?_ (by assumption)))) (Nat.le_refl _)) | fail)
            all_goals (go_wp2_with fail; go_roundw; (case rel => exact ⟨t + 1, by omega, by go_num, hFq.out.bel (by (repeat (first | assumption | exact Bel.refl _ | apply Bel.drewN | apply Bel.drew | apply Bel.alloc | refine Bel.trans ?_ (by assumption)))), hbq.trans (by (repeat (first | assumption | exact Bel.refl _ | apply Bel.drewN | apply Bel.drew | apply Bel.alloc | refine Bel.trans ?_ (by assumption))))⟩); (case measure => simp [intOf]; omega))
          · have hFM := hFM.congr (D' := distM (netOf p) 0) (fun a b _ _ => by
              obtain rfl : t = p.2.2.1.length := by omega
              rfl)
            have hpn : p.2.1.length ≤ 6 := hpl
            obtain ⟨Wc, hWc⟩ : ∃ W, W = wr := ⟨wr, rfl⟩
            subst hWc
            clear b0 b1 b2 b3 b4
            go_wp2_with fail
            go_loopw [71] (fun i wr => ∃ m : Nat, m ≤ p.2.1.length ∧ i = .int .i64 m ∧ FM Wa.heap.size wr p.2.1.length p.2.1.length fb mb oF p.2.1.length oM p.2.1.length rF pF rM pM (distM (netOf p) m) ∧ Bel Wa wr) (fun i _ => p.2.1.length - (intOf i).toNat)
            case atStart => exact ⟨0, Nat.zero_le _, rfl, hFM, hB2⟩
            case round =>
              clear hFM
              obtain ⟨m, hm, rfl, hFM, hB3⟩ := hrel
              by_cases hlm : m < p.2.1.length
              · have HDG := Lib.hid ((dist_all _ HF.out HN.out m hm).diag m hlm)
                have hF0 := hFM.first
                clear hFM
                obtain ⟨Wd, hWd⟩ : ∃ W, W = wr := ⟨wr, rfl⟩
                subst hWd
                go_wp2_with fail
                go_loopw [75] (fun i wr => ∃ i' : Nat, i' ≤ p.2.1.length ∧ i = .int .i64 i' ∧ FM Wa.heap.size wr p.2.1.length p.2.1.length fb mb oF p.2.1.length oM p.2.1.length rF pF rM pM (distS (netOf p) m i' 0) ∧ Bel Wa wr) (fun i _ => p.2.1.length - (intOf i).toNat)
                case atStart => exact ⟨0, Nat.zero_le _, rfl, hF0, hB3⟩
                case round =>
                  clear hF0
                  obtain ⟨i, hi, rfl, hFM, hB4⟩ := hrel
                  by_cases hli : i < p.2.1.length
                  · obtain ⟨We, hWe⟩ : ∃ W, W = wr := ⟨wr, rfl⟩
                    subst hWe
                    go_wp2_with fail
                    go_loopw [79] (fun j wr => ∃ k : Nat, k ≤ p.2.1.length ∧ j = .int .i64 k ∧ FM Wa.heap.size wr p.2.1.length p.2.1.length fb mb oF p.2.1.length oM p.2.1.length rF pF rM pM (distS (netOf p) m i k) ∧ Bel Wa wr) (fun j _ => p.2.1.length - (intOf j).toNat)
                    case atStart => exact ⟨0, Nat.zero_le _, rfl, hFM, hB4⟩
                    case round =>
                      clear hFM
                      obtain ⟨k, hk, rfl, hFM, hB5⟩ := hrel
                      by_cases hlk : k < p.2.1.length
                      · have hb1 := distS_bd HF.out HN.out (x := i) (y := k) (m := m) (i := i) (k := m) hlm hli hlm
                        have hb2 := distS_bd HF.out HN.out (x := i) (y := k) (m := m) (i := m) (k := k) hlm hlm hlk
                        have hb3 : distS (netOf p) m i k i m = -1000 ∨ -420 ≤ distS (netOf p) m i k i m := by omega
                        have hb4 : distS (netOf p) m i k m k = -1000 ∨ -420 ≤ distS (netOf p) m i k m k := by omega
                        have HGN := Lib.hid (fun (h : distS (netOf p) m i k i m = -1000 ∨ distS (netOf p) m i k m k = -1000) => hFM.skip HDG.out h)
                        have HGT := Lib.hid (fun (h1 : ¬ distS (netOf p) m i k i m = -1000) (h2 : ¬ distS (netOf p) m i k m k = -1000) (X : World) (h : FM Wa.heap.size X p.2.1.length p.2.1.length fb mb oF p.2.1.length oM p.2.1.length rF pF rM pM (fun a b => if a = i ∧ b = k then addV (distS (netOf p) m i k i k) (distS (netOf p) m i k i m + distS (netOf p) m i k m k) else distS (netOf p) m i k a b)) => h.tri HDG.out hb3 hb4 h1 h2)
                        have HADD := Lib.hid (fun (h1 : ¬ distS (netOf p) m i k i m = -1000) (h2 : ¬ distS (netOf p) m i k m k = -1000) (W : World) (hW : Bel wr W) => iAdd_any _ _ _ _ _ _ _ _ _ _ _ _ _ i k (distS (netOf p) m i k i m + distS (netOf p) m i k m k) W (hFM.bel hW) hli hlk hpl (by omega))
                        have HSL := Lib.hid (show ∀ (X : World) (D : Nat → Nat → Int), FM Wa.heap.size X p.2.1.length p.2.1.length fb mb oF p.2.1.length oM p.2.1.length rF pF rM pM (D) → (fun W : World => W.cell? ⟨fb, 0, none⟩ = some (.slice (some ⟨oF, 0, none⟩) p.2.1.length p.2.1.length) ∧ W.cell? ⟨oF, i, none⟩ = some (.slice (some ⟨rF i, 0, none⟩) p.2.1.length (pF i)) ∧ W.cell? ⟨oF, m, none⟩ = some (.slice (some ⟨rF m, 0, none⟩) p.2.1.length (pF m))) X from fun X D h => ⟨h.bF, (h.gF.slot i hli).1, (h.gF.slot m hlm).1⟩)
                        have mF := hFM.bF
                        have mM := hFM.bM
                        obtain ⟨s1, -⟩ := hFM.gM.slot i hli
                        obtain ⟨s2, -⟩ := hFM.gM.slot m hlm
                        obtain ⟨s3, -⟩ := hFM.gF.slot i hli
                        obtain ⟨s4, -⟩ := hFM.gF.slot m hlm
                        obtain ⟨c1, -⟩ := hFM.gM.cell i m hli hlm
                        obtain ⟨c2, -⟩ := hFM.gM.cell m k hlm hlk
                        obtain ⟨c3, -⟩ := hFM.gF.cell i m hli hlm
                        obtain ⟨c4, -⟩ := hFM.gF.cell m k hlm hlk
                        simp only [metV] at c1 c2
                        simp only [farV] at c3 c4
                        clear hFM
                        generalize distS (netOf p) m i k i k = DIK at *
                        generalize distS (netOf p) m i k i m = DIM at *
                        generalize distS (netOf p) m i k m k = DMK at *
                        have hki : (k : Int) < (p.2.1.length : Int) := by omega
                        have hii : (i : Int) < (p.2.1.length : Int) := by omega
                        have hmi : (m : Int) < (p.2.1.length : Int) := by omega
                        by_cases h1 : DIM = -1000
                        · subst h1
                          have c1 : wr.cell? ⟨rM i, m, none⟩ = some (.bool false) := by rw [c1]; rfl
                          go_wp2
                          go_roundw
                          case rel => exact ⟨k + 1, by omega, by go_num, (HGN.out (.inl rfl)).bel (by (repeat (first | assumption | exact Bel.refl _ | apply Bel.drewN | apply Bel.drew | apply Bel.alloc | refine Bel.trans ?_ (by assumption)))), by (repeat (first | assumption | exact Bel.refl _ | apply Bel.drewN | apply Bel.drew | apply Bel.alloc | refine Bel.trans ?_ (by assumption)))⟩
                          case measure => simp [intOf]; omega
                        simp only [decide_eq_false h1, Bool.not_false] at c1
                        simp only [fz, if_neg h1] at c3
                        by_cases h2 : DMK = -1000
                        · subst h2
                          have c2 : wr.cell? ⟨rM m, k, none⟩ = some (.bool false) := by rw [c2]; rfl
                          go_wp2
                          go_roundw
                          case rel => exact ⟨k + 1, by omega, by go_num, (HGN.out (.inr rfl)).bel (by (repeat (first | assumption | exact Bel.refl _ | apply Bel.drewN | apply Bel.drew | apply Bel.alloc | refine Bel.trans ?_ (by assumption)))), by (repeat (first | assumption | exact Bel.refl _ | apply Bel.drewN | apply Bel.drew | apply Bel.alloc | refine Bel.trans ?_ (by assumption)))⟩
                          case measure => simp [intOf]; omega
                        simp only [decide_eq_false h2, Bool.not_false] at c2
                        simp only [fz, if_neg h2] at c4
                        have hsum : IntKind.i64.wrap (DIM + DMK) = DIM + DMK := IntWalk.i64_in _ (by omega)
                        have HADD := Lib.hid (HADD.out h1 h2)
                        have HGT := Lib.hid (HGT.out h1 h2)
                        have HS0 := Lib.hid (show ∀ W, Bel wr W → (fun W : World => W.cell? ⟨fb, 0, none⟩ = some (.slice (some ⟨oF, 0, none⟩) p.2.1.length p.2.1.length) ∧ W.cell? ⟨oF, i, none⟩ = some (.slice (some ⟨rF i, 0, none⟩) p.2.1.length (pF i)) ∧ W.cell? ⟨oF, m, none⟩ = some (.slice (some ⟨rF m, 0, none⟩) p.2.1.length (pF m))) W from fun W hW => ⟨hW.cell mF, hW.cell s3, hW.cell s4⟩)
                        go_upto_region 27 with (fail)
                        refine wp_region_held_drew (S := (fun W => W.cell? ⟨fb, 0, none⟩ = some (.slice (some ⟨oF, 0, none⟩) p.2.1.length p.2.1.length) ∧ W.cell? ⟨oF, i, none⟩ = some (.slice (some ⟨rF i, 0, none⟩) p.2.1.length (pF i)) ∧ W.cell? ⟨oF, m, none⟩ = some (.slice (some ⟨rF m, 0, none⟩) p.2.1.length (pF m)))) (by kernel_rfl) ?_ (fun hHeld => ?_)
                        · ((try dsimp only); (first | exact hS2 | exact HS0.out _ (by (repeat (first | assumption | exact Bel.refl _ | apply Bel.drewN | apply Bel.drew | apply Bel.alloc | refine Bel.trans ?_ (by assumption))))))
                        refine wpAnyH_take (i := 0) (v := ?_) rfl (by kernel_rfl) (by kernel_rfl) (by kernel_rfl) (fun _ _ _ h => h) (Or.inl ⟨by rfl, ?_⟩) (by assumption) ?_
                        rotate_left
                        · (intro w hSw; (try dsimp only at hSw); go_simp <;> with_reducible rfl)
                        try walk_nrm
                        refine wpAnyH_take (i := 1) (v := ?_) rfl (by kernel_rfl) (by kernel_rfl) (by kernel_rfl) (fun _ _ _ h => h) (Or.inl ⟨by rfl, ?_⟩) (by assumption) ?_
                        rotate_left
                        · (intro w hSw; (try dsimp only at hSw); go_simp <;> with_reducible rfl)
                        try walk_nrm
                        refine wpAnyH_take (i := 2) (v := ?_) rfl (by kernel_rfl) (by kernel_rfl) (by kernel_rfl) (fun _ _ _ h => h) (Or.inl ⟨by rfl, ?_⟩) (by assumption) ?_
                        rotate_left
                        · (intro w hSw; (try dsimp only at hSw); go_simp <;> with_reducible rfl)
                        try walk_nrm
                        refine wpAnyH_take (i := 3) (v := ?_) rfl (by kernel_rfl) (by kernel_rfl) (by kernel_rfl) (fun _ _ _ h => h) (Or.inl ⟨by rfl, ?_⟩) (by assumption) ?_
                        rotate_left
                        · (intro w hSw; (try dsimp only at hSw); go_simp <;> with_reducible rfl)
                        try walk_nrm
                        refine wpAnyH_take (i := 4) (v := ?_) rfl (by kernel_rfl) (by kernel_rfl) (by kernel_rfl) (fun _ _ _ h => h) (Or.inl ⟨by rfl, ?_⟩) (by assumption) ?_
                        rotate_left
                        · (intro w hSw; (try dsimp only at hSw); go_simp <;> with_reducible rfl)
                        try walk_nrm
                        refine wpAnyH_take (i := 5) (v := ?_) rfl (by kernel_rfl) (by kernel_rfl) (by kernel_rfl) (fun _ _ _ h => h) (Or.inl ⟨by rfl, ?_⟩) (by assumption) ?_
                        rotate_left
                        · (intro w hSw; (try dsimp only at hSw); go_simp <;> with_reducible rfl)
                        try walk_nrm
                        refine wpAnyH_take (i := 6) (v := ?_) rfl (by kernel_rfl) (by kernel_rfl) (by kernel_rfl) (fun _ _ _ h => h) (Or.inl ⟨by rfl, ?_⟩) (by assumption) ?_
                        rotate_left
                        · (intro w hSw; (try dsimp only at hSw); go_simp <;> with_reducible rfl)
                        try walk_nrm
                        refine wpAnyH_take (i := 7) (v := ?_) rfl (by kernel_rfl) (by kernel_rfl) (by kernel_rfl) (fun _ _ _ h => h) (Or.inl ⟨by rfl, ?_⟩) (by assumption) ?_
                        rotate_left
                        · (intro w hSw; (try dsimp only at hSw); go_simp <;> with_reducible rfl)
                        try walk_nrm
                        refine wpAnyH_take (i := 8) (v := ?_) rfl (by kernel_rfl) (by kernel_rfl) (by kernel_rfl) (fun _ _ _ h => h) (Or.inl ⟨by rfl, ?_⟩) (by assumption) ?_
                        rotate_left
                        · (intro w hSw; (try dsimp only at hSw); go_simp <;> with_reducible rfl)
                        try walk_nrm
                        refine wpAnyH_take (i := 10) (v := ?_) rfl (by kernel_rfl) (by kernel_rfl) (by kernel_rfl) (fun _ _ _ h => h) (Or.inl ⟨by rfl, ?_⟩) (by assumption) ?_
                        rotate_left
                        · (intro w hSw; (try dsimp only at hSw); go_simp <;> with_reducible rfl)
                        try walk_nrm
                        refine wpAnyH_take (i := 11) (v := ?_) rfl (by kernel_rfl) (by kernel_rfl) (by kernel_rfl) (fun _ _ _ h => h) (Or.inl ⟨by rfl, ?_⟩) (by assumption) ?_
                        rotate_left
                        · (intro w hSw; (try dsimp only at hSw); go_simp <;> with_reducible rfl)
                        try walk_nrm
                        refine wpAnyH_take (i := 12) (v := ?_) rfl (by kernel_rfl) (by kernel_rfl) (by kernel_rfl) (fun _ _ _ h => h) (Or.inl ⟨by rfl, ?_⟩) (by assumption) ?_
                        rotate_left
                        · (intro w hSw; (try dsimp only at hSw); go_simp <;> with_reducible rfl)
                        try walk_nrm
                        refine wpAnyH_take (i := 13) (v := ?_) rfl (by kernel_rfl) (by kernel_rfl) (by kernel_rfl) (fun _ _ _ h => h) (Or.inl ⟨by rfl, ?_⟩) (by assumption) ?_
                        rotate_left
                        · (intro w hSw; (try dsimp only at hSw); go_simp <;> with_reducible rfl)
                        try walk_nrm
                        refine wpAnyH_take (i := 14) (v := ?_) rfl (by kernel_rfl) (by kernel_rfl) (by kernel_rfl) (fun _ _ _ h => h) (Or.inl ⟨by rfl, ?_⟩) (by assumption) ?_
                        rotate_left
                        · (intro w hSw; (try dsimp only at hSw); go_simp <;> with_reducible rfl)
                        try walk_nrm
                        refine wpAnyH_take (i := 15) (v := ?_) rfl (by kernel_rfl) (by kernel_rfl) (by kernel_rfl) (fun _ _ _ h => h) (Or.inl ⟨by rfl, ?_⟩) (by assumption) ?_
                        rotate_left
                        · (intro w hSw; (try dsimp only at hSw); go_simp <;> with_reducible rfl)
                        try walk_nrm
                        refine wpAnyH_ready (rs := [9, 16]) (by kernel_rfl) (by simp) ?_
                        refine AllReadyH.cons rfl (fun K hK => ?_) ?_
                        · go_simp
                          refine hK.out _ _ ?_ (fun hHeld => ?_)
                          · ((try dsimp only); (first | exact hS2 | exact HS0.out _ (by (repeat (first | assumption | exact Bel.refl _ | apply Bel.drewN | apply Bel.drew | apply Bel.alloc | refine Bel.trans ?_ (by assumption))))))
                          clear hK K
                          try walk_nrm
                          refine wpAnyH_ready (rs := [16]) (by kernel_rfl) (by simp) ?_
                          refine AllReadyH.cons rfl (fun K hK => ?_) AllReadyH.nil
                          · go_simp
                            refine hK.out _ _ ?_ (fun hHeld => ?_)
                            · ((try dsimp only); (first | exact hS2 | exact HS0.out _ (by (repeat (first | assumption | exact Bel.refl _ | apply Bel.drewN | apply Bel.drew | apply Bel.alloc | refine Bel.trans ?_ (by assumption))))))
                            clear hK K
                            try walk_nrm
                            refine wpAnyH_take (i := 17) (v := ?_) rfl (by kernel_rfl) (by kernel_rfl) (by kernel_rfl) (fun _ _ _ h => h) (Or.inl ⟨by rfl, ?_⟩) (by assumption) ?_
                            rotate_left
                            · (intro w hSw; (try dsimp only at hSw); go_simp <;> with_reducible rfl)
                            try walk_nrm
                            refine wpAnyH_ready (rs := [18]) (by kernel_rfl) (by simp) ?_
                            refine AllReadyH.cons rfl (fun K hK => ?_) AllReadyH.nil
                            · go_simp
                              (go_at_call 104; (with_reducible refine (HADD.out _ (by (repeat (first | assumption | exact Bel.refl _ | apply Bel.drewN | apply Bel.drew | apply Bel.alloc | refine Bel.trans ?_ (by assumption))))).mono ?_); rintro e wq ⟨⟨vq, rfl⟩, hFq, hsq, hbq, hkq⟩; have hS2 := HSL.out _ _ hFq; have hFq := Lib.hid (HGT.out _ hFq); have hbq := hbq Wa (by (repeat (first | assumption | exact Bel.refl _ | apply Bel.drewN | apply Bel.drew | apply Bel.alloc | refine Bel.trans ?_ (by assumption)))) (Nat.le_refl _))
                              try go_wp2_with fail
                              refine hK.out _ _ ?_ (fun hHeld => ?_)
                              · ((try dsimp only); (first | exact hS2 | exact HS0.out _ (by (repeat (first | assumption | exact Bel.refl _ | apply Bel.drewN | apply Bel.drew | apply Bel.alloc | refine Bel.trans ?_ (by assumption))))))
                              clear hK K
                              try walk_nrm
                              refine wpAnyH_done (by kernel_rfl) ?_ _
                              (go_wp2_with fail; go_roundw; (case rel => exact ⟨k + 1, by omega, by go_num, hFq.out.bel (by (repeat (first | assumption | exact Bel.refl _ | apply Bel.drewN | apply Bel.drew | apply Bel.alloc | refine Bel.trans ?_ (by assumption)))), hbq.trans (by (repeat (first | assumption | exact Bel.refl _ | apply Bel.drewN | apply Bel.drew | apply Bel.alloc | refine Bel.trans ?_ (by assumption))))⟩); (case measure => simp [intOf]; omega))
                        refine AllReadyH.cons rfl (fun K hK => ?_) AllReadyH.nil
                        · go_simp
                          refine hK.out _ _ ?_ (fun hHeld => ?_)
                          · ((try dsimp only); (first | exact hS2 | exact HS0.out _ (by (repeat (first | assumption | exact Bel.refl _ | apply Bel.drewN | apply Bel.drew | apply Bel.alloc | refine Bel.trans ?_ (by assumption))))))
                          clear hK K
                          try walk_nrm
                          refine wpAnyH_ready (rs := [9]) (by kernel_rfl) (by simp) ?_
                          refine AllReadyH.cons rfl (fun K hK => ?_) AllReadyH.nil
                          · go_simp
                            refine hK.out _ _ ?_ (fun hHeld => ?_)
                            · ((try dsimp only); (first | exact hS2 | exact HS0.out _ (by (repeat (first | assumption | exact Bel.refl _ | apply Bel.drewN | apply Bel.drew | apply Bel.alloc | refine Bel.trans ?_ (by assumption))))))
                            clear hK K
                            try walk_nrm
                            refine wpAnyH_take (i := 17) (v := ?_) rfl (by kernel_rfl) (by kernel_rfl) (by kernel_rfl) (fun _ _ _ h => h) (Or.inl ⟨by rfl, ?_⟩) (by assumption) ?_
                            rotate_left
                            · (intro w hSw; (try dsimp only at hSw); go_simp <;> with_reducible rfl)
                            try walk_nrm
                            refine wpAnyH_ready (rs := [18]) (by kernel_rfl) (by simp) ?_
                            refine AllReadyH.cons rfl (fun K hK => ?_) AllReadyH.nil
                            · go_simp
                              (go_at_call 104; (with_reducible refine (HADD.out _ (by (repeat (first | assumption | exact Bel.refl _ | apply Bel.drewN | apply Bel.drew | apply Bel.alloc | refine Bel.trans ?_ (by assumption))))).mono ?_); rintro e wq ⟨⟨vq, rfl⟩, hFq, hsq, hbq, hkq⟩; have hS2 := HSL.out _ _ hFq; have hFq := Lib.hid (HGT.out _ hFq); have hbq := hbq Wa (by (repeat (first | assumption | exact Bel.refl _ | apply Bel.drewN | apply Bel.drew | apply Bel.alloc | refine Bel.trans ?_ (by assumption)))) (Nat.le_refl _))
                              try go_wp2_with fail
                              refine hK.out _ _ ?_ (fun hHeld => ?_)
                              · ((try dsimp only); (first | exact hS2 | exact HS0.out _ (by (repeat (first | assumption | exact Bel.refl _ | apply Bel.drewN | apply Bel.drew | apply Bel.alloc | refine Bel.trans ?_ (by assumption))))))
                              clear hK K
                              try walk_nrm
                              refine wpAnyH_done (by kernel_rfl) ?_ _
                              (go_wp2_with fail; go_roundw; (case rel => exact ⟨k + 1, by omega, by go_num, hFq.out.bel (by (repeat (first | assumption | exact Bel.refl _ | apply Bel.drewN | apply Bel.drew | apply Bel.alloc | refine Bel.trans ?_ (by assumption)))), hbq.trans (by (repeat (first | assumption | exact Bel.refl _ | apply Bel.drewN | apply Bel.drew | apply Bel.alloc | refine Bel.trans ?_ (by assumption))))⟩); (case measure => simp [intOf]; omega))
                      · obtain rfl : k = p.2.1.length := by omega
                        have hFn := hFM.row
                        clear hFM
                        go_wp2
                        go_roundw
                        case rel => exact ⟨i + 1, by omega, by go_num, hFn, hB5⟩
                        case measure => simp [intOf]; omega
                  · obtain rfl : i = p.2.1.length := by omega
                    have hFn := hFM.last
                    clear hFM
                    go_wp2
                    go_roundw
                    case rel => exact ⟨m + 1, by omega, by go_num, hFn, hB4⟩
                    case measure => simp [intOf]; omega
              · obtain rfl : m = p.2.1.length := by omega
                have HFM := Lib.hid hFM
                have hFi := hFM.fin
                clear hFM
                obtain ⟨Wd, hWd⟩ : ∃ W, W = wr := ⟨wr, rfl⟩
                subst hWd
                go_wp2_with fail
                go_loopw [121] (fun i wr => ∃ i' : Nat, i' ≤ p.2.1.length ∧ i = .int .i64 i' ∧ Fin Wa.heap.size wr p.2.1.length fb mb oF p.2.1.length oM p.2.1.length rF pF rM pM (distM (netOf p) p.2.1.length) i' 0 ∧ Bel Wa wr) (fun i _ => p.2.1.length - (intOf i).toNat)
                case atStart => exact ⟨0, Nat.zero_le _, rfl, hFi, hB3⟩
                case round =>
                  clear hFi
                  obtain ⟨i, hi, rfl, hFi, hB4⟩ := hrel
                  by_cases hli : i < p.2.1.length
                  · obtain ⟨We, hWe⟩ : ∃ W, W = wr := ⟨wr, rfl⟩
                    subst hWe
                    go_wp2_with fail
                    go_loopw [125] (fun j wr => ∃ k : Nat, k ≤ p.2.1.length ∧ j = .int .i64 k ∧ Fin Wa.heap.size wr p.2.1.length fb mb oF p.2.1.length oM p.2.1.length rF pF rM pM (distM (netOf p) p.2.1.length) i k ∧ Bel Wa wr) (fun j _ => p.2.1.length - (intOf j).toNat)
                    case atStart => exact ⟨0, Nat.zero_le _, rfl, hFi, hB4⟩
                    case round =>
                      clear hFi
                      obtain ⟨k, hk, rfl, hFi, hB5⟩ := hrel
                      by_cases hlk : k < p.2.1.length
                      · have HPUT := Lib.hid (fun (hd : distM (netOf p) p.2.1.length i k = -1000) => And.intro (Fin.put HFM.out hFi hli hlk hd) (hB5.set (p := ⟨rF i, k, none⟩) (hFi.gF.base i hli).1 (.int .i64 (-1000))))
                        have HSK := Lib.hid (fun (hd : ¬ distM (netOf p) p.2.1.length i k = -1000) => hFi.skip hd)
                        have mF := hFi.bF
                        have mM := hFi.bM
                        obtain ⟨s1, -⟩ := hFi.gM.slot i hli
                        obtain ⟨s3, -⟩ := hFi.gF.slot i hli
                        obtain ⟨c1, -⟩ := hFi.gM.cell i k hli hlk
                        obtain ⟨c3, c3f⟩ := hFi.gF.cell i k hli hlk
                        simp only [metV] at c1
                        simp only [intsV] at c3
                        clear hFi
                        have hki : (k : Int) < (p.2.1.length : Int) := by omega
                        have hii : (i : Int) < (p.2.1.length : Int) := by omega
                        by_cases h1 : distM (netOf p) p.2.1.length i k = -1000
                        · have HP := Lib.hid (HPUT.out h1)
                          simp only [decide_eq_true h1, Bool.not_true] at c1
                          clear h1
                          go_wp2
                          go_roundw
                          case rel => exact ⟨k + 1, by omega, by go_num, HP.out.1.bel (by (repeat (first | assumption | exact Bel.refl _ | apply Bel.drewN | apply Bel.drew | apply Bel.alloc | refine Bel.trans ?_ (by assumption)))), HP.out.2.trans (by (repeat (first | assumption | exact Bel.refl _ | apply Bel.drewN | apply Bel.drew | apply Bel.alloc | refine Bel.trans ?_ (by assumption))))⟩
                          case measure => simp [intOf]; omega
                        · have HP := Lib.hid (HSK.out h1)
                          simp only [decide_eq_false h1, Bool.not_false] at c1
                          clear h1
                          go_wp2
                          go_roundw
                          case rel => exact ⟨k + 1, by omega, by go_num, HP.out.bel (by (repeat (first | assumption | exact Bel.refl _ | apply Bel.drewN | apply Bel.drew | apply Bel.alloc | refine Bel.trans ?_ (by assumption)))), by (repeat (first | assumption | exact Bel.refl _ | apply Bel.drewN | apply Bel.drew | apply Bel.alloc | refine Bel.trans ?_ (by assumption)))⟩
                          case measure => simp [intOf]; omega
                      · obtain rfl : k = p.2.1.length := by omega
                        have hFn := hFi.next
                        clear hFi
                        go_wp2
                        go_roundw
                        case rel => exact ⟨i + 1, by omega, by go_num, hFn, hB5⟩
                        case measure => simp [intOf]; omega
                  · obtain rfl : i = p.2.1.length := by omega
                    have mF := hFi.bF
                    have HRES := Lib.hid (show GridRes p w (.returned (.slice (some ⟨oF, 0, none⟩) p.2.1.length p.2.1.length)) wr from ⟨oF, _, rF, pF, rfl, Nat.le_refl _, HMX.out, hFi.all.low (by have := hwW.size; have := G2.size; omega), by (repeat (first | assumption | exact Bel.refl _ | apply Bel.drewN | apply Bel.drew | apply Bel.alloc | refine Bel.trans ?_ (by assumption)))⟩)
                    clear hFi
                    go_wp2
                    go_ret
                    exact .inr ⟨HPO.out, HPN.out, HRES.out⟩

end Go.Proofs.Ytiaamddhocdhaaa
