/- Contracts of running, usage, UsageAt. -/
import Derived.Test.YtiaamddhocdhaaaSchFn
import Derived.Test.YtiaamddhocdhaaaRange
namespace Go.Proofs.Ytiaamddhocdhaaa
open Go.ChangeShapes Go.WideShapes Go.ChangeAt Go.RowKit
set_option linter.unusedVariables false

/-- Whether the k-th activity runs at a time. -/
def runB (p : ProjT) (s : SchT) (t : Int) (a : Int) : Bool := decide (s.1.getD a.toNat 0 ≤ t) && decide (t < endOf p s a.toNat)
def runL (p : ProjT) (s : SchT) (t : Int) : List Int := (rangeL p.2.1.length).filter (runB p s t)
theorem takeI_snoc {l : List Int} {k : Nat} (h : k < l.length) : l.take (k + 1) = l.take k ++ [l.getD k 0] := by
  rw [List.take_succ_eq_append_getElem h]
  simp [List.getD, h]
theorem filter_yes {c : Int → Bool} {l : List Int} {k : Nat} (h : k < l.length) (hc : c (l.getD k 0) = true) : (l.take (k + 1)).filter c = (l.take k).filter c ++ [l.getD k 0] := by
  rw [takeI_snoc h, List.filter_append, List.filter_cons_of_pos (by simpa using hc), List.filter_nil]
theorem filter_no {c : Int → Bool} {l : List Int} {k : Nat} (h : k < l.length) (hc : c (l.getD k 0) = false) : (l.take (k + 1)).filter c = (l.take k).filter c := by
  rw [takeI_snoc h, List.filter_append, List.filter_cons_of_neg (by rw [hc]; simp), List.filter_nil, List.append_nil]
theorem filter_le (c : Int → Bool) (l : List Int) (k : Nat) : ((l.take k).filter c).length ≤ k := Nat.le_trans (List.length_filter_le _ _) (by rw [List.length_take]; omega)
/-- The sum of the usages of a resource over some activities. -/
def useTo (p : ProjT) (s : SchT) (r : Nat) (xs : List Int) : Nat → Int
  | 0 => 0
  | k + 1 => useTo p s r xs k + (modeOf p s (xs.getD k 0).toNat).2.1.getD r 0
def usageV (p : ProjT) (s : SchT) (r : Nat) (t : Int) : Int := useTo p s r (runL p s t) (runL p s t).length
def usageAtV (p : ProjT) (s : SchT) (r t : Int) : Int := if schFormB p s && inBv r 0 ((p.2.2.2.1.length : Int) - 1) then usageV p s r.toNat t else 0
def runAtV (p : ProjT) (s : SchT) (t : Int) : List Int := if schFormB p s = true then runL p s t else []
/-- Indices of activities. -/
def Idx (p : ProjT) (xs : List Int) : Prop := xs.length ≤ p.2.1.length ∧ ∀ j, j < xs.length → ∃ a : Nat, xs.getD j 0 = a ∧ a < p.2.1.length
theorem runL_idx (p : ProjT) (s : SchT) (t : Int) : Idx p (runL p s t) := by
  refine ⟨Nat.le_trans (List.length_filter_le _ _) (by rw [rangeL_length]; exact Nat.le_refl _), fun j hj => ?_⟩
  have h1 : (runL p s t).getD j 0 ∈ runL p s t := by
    rw [show (runL p s t).getD j 0 = (runL p s t)[j] from by simp [List.getD, hj]]
    exact List.getElem_mem _
  have h2 := rangeL_has.1 (List.mem_filter.1 (show _ ∈ (rangeL p.2.1.length).filter (runB p s t) from h1)).1
  exact ⟨((runL p s t).getD j 0).toNat, by omega, by omega⟩
theorem rangeL_idx (p : ProjT) : Idx p (rangeL p.2.1.length) :=
  ⟨by rw [rangeL_length]; exact Nat.le_refl _, fun j hj => ⟨j, rangeL_at (by rw [rangeL_length] at hj; exact hj), by rw [rangeL_length] at hj; exact hj⟩⟩
theorem useTo_bd {p : ProjT} {s : SchT} {r : Nat} {xs : List Int} (h : schFormB p s = true) (hr : r < p.2.2.2.1.length) (hx : Idx p xs) : ∀ k, k ≤ xs.length → 0 ≤ useTo p s r xs k ∧ useTo p s r xs k ≤ 20 * k := by
  intro k
  induction k with
  | zero => intro _; simp [useTo]
  | succ k ih =>
    intro hk
    have h1 := ih (by omega)
    obtain ⟨a, ha, ha'⟩ := hx.2 k (by omega)
    have h2 := (modeOk_bd (modeOf_ok h ha')).2.2.2.2.1 r hr
    simp only [useTo, ha]
    rw [show ((a : Nat) : Int).toNat = a from rfl]
    omega
theorem usageV_bd {p : ProjT} {s : SchT} {r : Nat} {t : Int} (h : schFormB p s = true) (hr : r < p.2.2.2.1.length) : 0 ≤ usageV p s r t ∧ usageV p s r t ≤ 120 := by
  have h1 := useTo_bd h hr (runL_idx p s t) (runL p s t).length (Nat.le_refl _)
  have h2 := (runL_idx p s t).1
  have h3 := (projOk_bd (projOk_form h)).2.1
  unfold usageV
  omega

set_option maxHeartbeats 1000000 in
theorem closRun_any (p : ProjT) (S : Nat → Prop) (p1 : Option Addr) (k1 : Nat) (p2 : Option Addr) (k2 : Nat) (p3 : Option Addr) (k3 : Nat) (p4 : Option Addr) (k4 : Nat) (s : SchT) (T : Nat → Prop) (sp0 : Option Addr) (sk0 : Nat) (sp1 : Option Addr) (sk1 : Nat) (BP BS BT : Nat) (t : Int) (k : Nat) (w : World) (hx : projR S w [.int .i64 p.1, .slice p1 p.2.1.length k1, .slice p2 p.2.2.1.length k2, .slice p3 p.2.2.2.1.length k3, .slice p4 p.2.2.2.2.length k4] p) (hS : ∀ b, S b → b < w.heap.size) (hs : schR T w [.slice sp0 s.1.length sk0, .slice sp1 s.2.length sk1] s) (hT : ∀ b, T b → b < w.heap.size) (hb : w.cell? ⟨BP, 0, none⟩ = some (.int .i64 p.1) ∧ w.cell? ⟨BP, 1, none⟩ = some (.slice p1 p.2.1.length k1) ∧ w.cell? ⟨BP, 2, none⟩ = some (.slice p2 p.2.2.1.length k2) ∧ w.cell? ⟨BP, 3, none⟩ = some (.slice p3 p.2.2.2.1.length k3) ∧ w.cell? ⟨BP, 4, none⟩ = some (.slice p4 p.2.2.2.2.length k4) ∧ w.cell? ⟨BS, 0, none⟩ = some (.slice sp0 s.1.length sk0) ∧ w.cell? ⟨BS, 1, none⟩ = some (.slice sp1 s.2.length sk1) ∧ w.cell? ⟨BT, 0, none⟩ = some (.int .i64 t)) (hf : schFormB p s = true) (hk : k < p.2.1.length) :
    Calls Try.prog 181 #[.int .i64 k, .pointer (some ⟨BS, 0, none⟩), .pointer (some ⟨BT, 0, none⟩), .pointer (some ⟨BP, 0, none⟩)] w fun e w' => e = .returned (.bool (runB p s t k)) ∧ Bel w w' := by
  obtain ⟨⟨hkp, hk0, hk1, _⟩, hst0, hst1⟩ := formAt_in hf hk
  have HFO := Lib.hid hf
  have HK := Lib.hid hk
  clear hf hk
  obtain ⟨b0, b1, b2, b3, b4, c0, c1, dt⟩ := hb
  have HP := Lib.hid hx
  have HZ := Lib.hid hs
  have HS := Lib.hid hS
  have HT := Lib.hid hT
  obtain ⟨z0, z1, ez, zq0, zq1⟩ := schR_open hs
  obtain ⟨rfl, rfl⟩ : _ = z0 ∧ _ = z1 := by simpa using ez
  obtain ⟨sb0, so0, se0, sa0⟩ := intsR_at' zq0 hk0
  obtain rfl : sp0 = some ⟨sb0, so0, none⟩ := se0
  clear hx hs hS hT ez zq0 zq1
  have HE := Lib.hid (show runB p s t (k : Int) = (decide (s.1.getD k 0 ≤ t) && decide (t < endOf p s k)) from rfl)
  generalize s.1.getD k 0 = st at *
  have hk0i : (k : Int) < (s.1.length : Int) := by omega
  clear hkp hk0 hk1
  by_cases hle : st ≤ t
  rotate_left
  · have hl1 : decide (st ≤ t) = false := decide_eq_false hle
    have HF := Lib.hid (show runB p s t (k : Int) = false from by rw [HE.out, hl1]; rfl)
    clear hle
    go_enter Try.func181, Try.ntmps181
    go_wp2_with fail
    go_quiet (fail)
    go_wp2
    go_ret
    exact ⟨ret_bool HF.out.symm, by (repeat (first | assumption | exact Bel.refl _ | apply Bel.drewN | apply Bel.drew | apply Bel.alloc | refine Bel.trans ?_ (by assumption)))⟩
  · have hl1 : decide (st ≤ t) = true := decide_eq_true hle
    have HF := Lib.hid (show runB p s t (k : Int) = decide (t < endOf p s k) from by rw [HE.out, hl1]; rfl)
    clear hle
    go_enter Try.func181, Try.ntmps181
    go_wp2_with fail
    go_region_held3 (fun W => W.cell? ⟨BP, 0, none⟩ = some (.int .i64 p.1) ∧ W.cell? ⟨BP, 1, none⟩ = some (.slice p1 p.2.1.length k1) ∧ W.cell? ⟨BP, 2, none⟩ = some (.slice p2 p.2.2.1.length k2) ∧ W.cell? ⟨BP, 3, none⟩ = some (.slice p3 p.2.2.2.1.length k3) ∧ W.cell? ⟨BP, 4, none⟩ = some (.slice p4 p.2.2.2.2.length k4) ∧ W.cell? ⟨BS, 0, none⟩ = some (.slice (some ⟨sb0, so0, none⟩) s.1.length sk0) ∧ W.cell? ⟨BS, 1, none⟩ = some (.slice sp1 s.2.length sk1) ∧ W.cell? ⟨BT, 0, none⟩ = some (.int .i64 t) ∧ W.cell? ⟨sb0, so0 + k, none⟩ = some (.int .i64 st)) (first | exact keep9 (by assumption) (by assumption) | go_keep)
      (first | (go_at_call 146; (with_reducible refine (iEnd_any _ p S _ s T k _ (aggR_mk (projR_good.bel HP.out (by (repeat (first | assumption | exact Bel.refl _ | apply Bel.drewN | apply Bel.drew | apply Bel.alloc | refine Bel.trans ?_ (by assumption)))) HS.out)) (fun b hb => Nat.lt_of_lt_of_le (HS.out b hb) (Bel.size (by (repeat (first | assumption | exact Bel.refl _ | apply Bel.drewN | apply Bel.drew | apply Bel.alloc | refine Bel.trans ?_ (by assumption)))))) (aggR_mk (schR_good.bel HZ.out (by (repeat (first | assumption | exact Bel.refl _ | apply Bel.drewN | apply Bel.drew | apply Bel.alloc | refine Bel.trans ?_ (by assumption)))) HT.out)) (fun b hb => Nat.lt_of_lt_of_le (HT.out b hb) (Bel.size (by (repeat (first | assumption | exact Bel.refl _ | apply Bel.drewN | apply Bel.drew | apply Bel.alloc | refine Bel.trans ?_ (by assumption)))))) HFO.out HK.out).mono ?_); rintro e wt ⟨rfl, gt⟩))
    go_wp2
    go_ret
    exact ⟨ret_bool HF.out.symm, by (repeat (first | assumption | exact Bel.refl _ | apply Bel.drewN | apply Bel.drew | apply Bel.alloc | refine Bel.trans ?_ (by assumption)))⟩

set_option maxHeartbeats 1000000 in
theorem keptRun_any (p : ProjT) (S : Nat → Prop) (p1 : Option Addr) (k1 : Nat) (p2 : Option Addr) (k2 : Nat) (p3 : Option Addr) (k3 : Nat) (p4 : Option Addr) (k4 : Nat) (s : SchT) (T : Nat → Prop) (sp0 : Option Addr) (sk0 : Nat) (sp1 : Option Addr) (sk1 : Nat) (BP BS BT : Nat) (t : Int) (v : Value) (xs : List Int) (V : Nat → Prop) (w : World) (hx : projR S w [.int .i64 p.1, .slice p1 p.2.1.length k1, .slice p2 p.2.2.1.length k2, .slice p3 p.2.2.2.1.length k3, .slice p4 p.2.2.2.2.length k4] p) (hS : ∀ b, S b → b < w.heap.size) (hs : schR T w [.slice sp0 s.1.length sk0, .slice sp1 s.2.length sk1] s) (hT : ∀ b, T b → b < w.heap.size) (hb : w.cell? ⟨BP, 0, none⟩ = some (.int .i64 p.1) ∧ w.cell? ⟨BP, 1, none⟩ = some (.slice p1 p.2.1.length k1) ∧ w.cell? ⟨BP, 2, none⟩ = some (.slice p2 p.2.2.1.length k2) ∧ w.cell? ⟨BP, 3, none⟩ = some (.slice p3 p.2.2.2.1.length k3) ∧ w.cell? ⟨BP, 4, none⟩ = some (.slice p4 p.2.2.2.2.length k4) ∧ w.cell? ⟨BS, 0, none⟩ = some (.slice sp0 s.1.length sk0) ∧ w.cell? ⟨BS, 1, none⟩ = some (.slice sp1 s.2.length sk1) ∧ w.cell? ⟨BT, 0, none⟩ = some (.int .i64 t)) (hf : schFormB p s = true) (hv : intsR V w [v] xs) (hi : Idx p xs) :
    Calls Try.prog 113 #[v, .func (.func 181) #[] #[.pointer (some ⟨BS, 0, none⟩), .pointer (some ⟨BT, 0, none⟩), .pointer (some ⟨BP, 0, none⟩)]] w (FreshV intsR w (xs.filter (runB p s t))) := by
  have HFO := Lib.hid hf
  have HBX := Lib.hid hb
  have HP := Lib.hid hx
  have HZ := Lib.hid hs
  have HS := Lib.hid hS
  have HT := Lib.hid hT
  have HI := Lib.hid hi
  have hxl := hi.1
  have HX := Lib.hid (fun i hi => intsR_at' hv (i := i) hi)
  obtain ⟨vp, vk, rfl, vl, vl', -⟩ := sliceR_open hv
  unfold maxLen at vl'
  clear hx hs hS hT hf hb hv hi
  go_enter Try.func113, Try.ntmps113
  go_wp2_with fail
  go_loopw [5, 11] (fun o i wr => ∃ (k : Nat) (ys : List Int) (q : Option Addr) (cap : Nat), k ≤ xs.length ∧ i = .int .i64 k ∧ o = .slice q ys.length cap ∧ ys = (xs.take k).filter (runB p s t) ∧ Own (fun _ => False) 1 intR 3 w.heap.size wr q cap ys ∧ Bel w wr) (fun _ i _ => xs.length - (intOf i).toNat)
  case atStart => exact ⟨0, [], _, _, Nat.zero_le _, rfl, rfl, rfl, Own.empty (alloc_at (by simp)) (by simp), by (repeat (first | assumption | exact Bel.refl _ | apply Bel.drewN | apply Bel.drew | apply Bel.alloc | refine Bel.trans ?_ (by assumption)))⟩
  case round =>
    obtain ⟨k, ys, q, cap, hk, rfl, rfl, hys, hO, hB⟩ := hrel
    have hyl : ys.length ≤ k := by rw [hys]; exact filter_le _ _ _
    have HY := Lib.hid hys; clear hys
    have hsz := hB.size
    by_cases hlt : k < xs.length
    · obtain ⟨vb, vo, ve, vd⟩ := HX.out k hlt
      obtain rfl : vp = some ⟨vb, vo, none⟩ := ve
      have vd := hB.cell vd
      have HYN := Lib.hid (filter_yes (c := runB p s t) hlt)
      have HNN := Lib.hid (filter_no (c := runB p s t) hlt)
      obtain ⟨a, ha, han⟩ := HI.out.2 k hlt
      rw [ha] at vd
      have HA := Lib.hid ha; clear ha
      have HAN := Lib.hid han
      have hpl := (projOk_bd (projOk_form HFO.out)).2.1
      go_wp2_with fail
      refine (closRun_any p S p1 k1 p2 k2 p3 k3 p4 k4 s T sp0 sk0 sp1 sk1 BP BS BT t a _ (projR_good.bel HP.out (by (repeat (first | assumption | exact Bel.refl _ | apply Bel.drewN | apply Bel.drew | apply Bel.alloc | refine Bel.trans ?_ (by assumption)))) HS.out) (fun b hb => Nat.lt_of_lt_of_le (HS.out b hb) (Bel.size (by (repeat (first | assumption | exact Bel.refl _ | apply Bel.drewN | apply Bel.drew | apply Bel.alloc | refine Bel.trans ?_ (by assumption)))))) (schR_good.bel HZ.out (by (repeat (first | assumption | exact Bel.refl _ | apply Bel.drewN | apply Bel.drew | apply Bel.alloc | refine Bel.trans ?_ (by assumption)))) HT.out) (fun b hb => Nat.lt_of_lt_of_le (HT.out b hb) (Bel.size (by (repeat (first | assumption | exact Bel.refl _ | apply Bel.drewN | apply Bel.drew | apply Bel.alloc | refine Bel.trans ?_ (by assumption)))))) (keep8 HBX.out (by (repeat (first | assumption | exact Bel.refl _ | apply Bel.drewN | apply Bel.drew | apply Bel.alloc | refine Bel.trans ?_ (by assumption))))) HFO.out HAN.out).mono ?_
      rintro e w1 ⟨rfl, g1⟩
      have hsz1 := g1.size
      cases hb : runB p s t (a : Int)
      · have HBk := Lib.hid hb; clear hb
        have HNX := Lib.hid (show (xs.take (k + 1)).filter (runB p s t) = ys from by rw [HNN.out (by rw [HA.out]; exact HBk.out), ← HY.out])
        go_wp2
        go_roundw
        case rel => exact ⟨k + 1, ys, q, cap, by omega, by go_num, rfl, HNX.out.symm, hO.bel intR_good g1, by (repeat (first | assumption | exact Bel.refl _ | apply Bel.drewN | apply Bel.drew | apply Bel.alloc | refine Bel.trans ?_ (by assumption)))⟩
        case measure => simp [intOf]; omega
      · have HBk := Lib.hid hb; clear hb
        have HNX := Lib.hid (show (xs.take (k + 1)).filter (runB p s t) = ys ++ [(a : Int)] from by rw [HYN.out (by rw [HA.out]; exact HBk.out), ← HY.out, HA.out])
        go_wp2_with (at_builtin; refine wpList_app (n := 1) intR_good _ rfl _ _ 25 rfl (.int .i64 0) 8 Try.underlying25 (by kernel_rfl) rfl (by decide) (by decide) q cap ys ((a : Int)) rfl (hO.bel intR_good (by (repeat (first | assumption | exact Bel.refl _ | apply Bel.drewN | apply Bel.drew | apply Bel.alloc | refine Bel.trans ?_ (by assumption))))) _ 1 [.int .i64 (a : Int)] rfl rfl (World.news_of_block (alloc_at (by simp))) (by intro u hu; simp at hu; subst hu; rfl) (intRep (by unfold I64; omega)) (by omega) (by first | omega | (simp; omega)) ?_; intro q' cap' w' hO' hBW hsz')
        have HB := hBW w (by (repeat (first | assumption | exact Bel.refl _ | apply Bel.drewN | apply Bel.drew | apply Bel.alloc | refine Bel.trans ?_ (by assumption)))) (Nat.le_refl _)
        clear hBW hsz'
        go_wp2
        go_roundw
        case rel => exact ⟨k + 1, ys ++ [(a : Int)], q', cap', by omega, by go_num, by simp, HNX.out.symm, hO', HB⟩
        case measure => simp [intOf]; omega
    · have hkn : k = xs.length := by omega
      have HD := Lib.hid (show intsR (New w wr) wr [.slice q ys.length cap] (xs.filter (runB p s t)) from by
        have h1 := hO.done (T := New w wr) intR_good (fun b h _ => h.elim) (fun b h1 h2 => ⟨h1, h2⟩)
        have h2 : ys = xs.filter (runB p s t) := by rw [HY.out, hkn, List.take_of_length_le (Nat.le_refl _)]
        rw [← h2]; exact h1)
      go_wp2
      go_ret
      exact ⟨_, rfl, HD.out, hB⟩

set_option maxHeartbeats 1000000 in
theorem running_any (v : Value) (p : ProjT) (S : Nat → Prop) (v1 : Value) (s : SchT) (T : Nat → Prop) (t : Int) (w : World) (hx : aggR projR S w v p) (hS : ∀ b, S b → b < w.heap.size) (hs : aggR schR T w v1 s) (hT : ∀ b, T b → b < w.heap.size) (hf : schFormB p s = true) :
    Calls Try.prog 152 #[v, v1, .int .i64 t] w (FreshV intsR w (runL p s t)) := by
  obtain ⟨cs, rfl, hx⟩ := hx
  obtain ⟨c1, c2, c3, c4, rfl, q0, q1, q2, q3, q4⟩ := projR_open hx
  have Q1 := Lib.hid q1
  have Q2 := Lib.hid q2
  have Q3 := Lib.hid q3
  have Q4 := Lib.hid q4
  have HP := Lib.hid hx
  obtain ⟨p1, k1, rfl, l1, l1', -⟩ := sliceR_open q1
  obtain ⟨p2, k2, rfl, l2, l2', -⟩ := sliceR_open q2
  obtain ⟨p3, k3, rfl, l3, l3', -⟩ := sliceR_open q3
  obtain ⟨p4, k4, rfl, l4, l4', -⟩ := sliceR_open q4
  unfold maxLen at l1' l2' l3' l4'
  clear hx q0 q1 q2 q3 q4
  obtain ⟨zs, rfl, hs⟩ := hs
  have HZ := Lib.hid hs
  obtain ⟨z0, z1, rfl, zq0, zq1⟩ := schR_open hs
  have A0 := Lib.hid (fun i hi => intsR_at' zq0 (i := i) hi)
  have A1 := Lib.hid (fun i hi => intsR_at' zq1 (i := i) hi)
  obtain ⟨sp0, sk0, rfl, sl0, sl0', -⟩ := sliceR_open zq0
  obtain ⟨sp1, sk1, rfl, sl1, sl1', -⟩ := sliceR_open zq1
  unfold maxLen at sl0' sl1'
  have HT := Lib.hid hT
  have HQ1 := Lib.hid (show ∀ W, Bel w W → aggR schR T W (.agg #[.slice sp0 s.1.length sk0, .slice sp1 s.2.length sk1]) s from fun W hW => aggR_mk (schR_good.bel HZ.out hW HT.out))
  clear hs zq0 zq1 hT
  have HS := Lib.hid hS
  have HFO := Lib.hid hf
  have hpl := (projOk_bd (projOk_form hf)).2.1
  clear hS hf
  show Calls Try.prog 152 #[.agg #[.int .i64 p.1, .slice p1 p.2.1.length k1, .slice p2 p.2.2.1.length k2, .slice p3 p.2.2.2.1.length k3, .slice p4 p.2.2.2.2.length k4], .agg #[.slice sp0 s.1.length sk0, .slice sp1 s.2.length sk1], .int .i64 t] w _
  go_enter Try.func152, Try.ntmps152
  go_wp2_with fail
  refine (iIntRange_any _ _ (by omega)).mono ?_
  rintro e w1 ⟨vr, rfl, hr, g1⟩
  have b0 := g1.cell (p := ⟨w.heap.size, 0, none⟩) (v := .int .i64 p.1) (by simp [go_sem])
  have b1 := g1.cell (p := ⟨w.heap.size, 1, none⟩) (v := .slice p1 p.2.1.length k1) (by simp [go_sem])
  have b2 := g1.cell (p := ⟨w.heap.size, 2, none⟩) (v := .slice p2 p.2.2.1.length k2) (by simp [go_sem])
  have b3 := g1.cell (p := ⟨w.heap.size, 3, none⟩) (v := .slice p3 p.2.2.2.1.length k3) (by simp [go_sem])
  have b4 := g1.cell (p := ⟨w.heap.size, 4, none⟩) (v := .slice p4 p.2.2.2.2.length k4) (by simp [go_sem])
  have c0 := g1.cell (p := ⟨w.heap.size + 1, 0, none⟩) (v := .slice sp0 s.1.length sk0) (by simp [go_sem])
  have c1 := g1.cell (p := ⟨w.heap.size + 1, 1, none⟩) (v := .slice sp1 s.2.length sk1) (by simp [go_sem])
  have dt := g1.cell (p := ⟨w.heap.size + 1 + 1, 0, none⟩) (v := .int .i64 t) (by simp [go_sem])
  have G : Bel w w1 := by (repeat (first | assumption | exact Bel.refl _ | apply Bel.drewN | apply Bel.drew | apply Bel.alloc | refine Bel.trans ?_ (by assumption)))
  have HR := Lib.hid hr; clear hr
  have HB := Lib.hid (And.intro b0 (And.intro b1 (And.intro b2 (And.intro b3 (And.intro b4 (And.intro c0 (And.intro c1 dt)))))))
  clear b0 b1 b2 b3 b4 c0 c1 dt
  go_wp2_with fail
  refine (keptRun_any p S p1 k1 p2 k2 p3 k3 p4 k4 s T sp0 sk0 sp1 sk1 w.heap.size (w.heap.size + 1) (w.heap.size + 1 + 1) t _ (rangeL p.2.1.length) _ _ (projR_good.bel HP.out G HS.out) (fun b hb => Nat.lt_of_lt_of_le (HS.out b hb) G.size) (schR_good.bel HZ.out G HT.out) (fun b hb => Nat.lt_of_lt_of_le (HT.out b hb) G.size) HB.out HFO.out HR.out (rangeL_idx p)).mono ?_
  rintro e w2 ⟨vk, rfl, hk, g2⟩
  have HK := Lib.hid (intsR_good.mono hk (T := New w w2) fun b hb => ⟨by have := hb.1; have := G.size; omega, hb.2⟩); clear hk
  go_wp2
  go_ret
  exact ⟨_, rfl, HK.out, by (repeat (first | assumption | exact Bel.refl _ | apply Bel.drewN | apply Bel.drew | apply Bel.alloc | refine Bel.trans ?_ (by assumption)))⟩

set_option maxHeartbeats 1000000 in
theorem usage_any (v : Value) (p : ProjT) (S : Nat → Prop) (v1 : Value) (s : SchT) (T : Nat → Prop) (r : Nat) (t : Int) (w : World) (hx : aggR projR S w v p) (hS : ∀ b, S b → b < w.heap.size) (hs : aggR schR T w v1 s) (hT : ∀ b, T b → b < w.heap.size) (hf : schFormB p s = true) (hr : r < p.2.2.2.1.length) :
    Calls Try.prog 92 #[v, v1, .int .i64 r, .int .i64 t] w fun e w' => e = .returned (.int .i64 (usageV p s r t)) ∧ Bel w w' := by
  obtain ⟨cs, rfl, hx⟩ := hx
  obtain ⟨c1, c2, c3, c4, rfl, q0, q1, q2, q3, q4⟩ := projR_open hx
  have Q1 := Lib.hid q1
  have Q2 := Lib.hid q2
  have Q3 := Lib.hid q3
  have Q4 := Lib.hid q4
  have HP := Lib.hid hx
  obtain ⟨p1, k1, rfl, l1, l1', -⟩ := sliceR_open q1
  obtain ⟨p2, k2, rfl, l2, l2', -⟩ := sliceR_open q2
  obtain ⟨p3, k3, rfl, l3, l3', -⟩ := sliceR_open q3
  obtain ⟨p4, k4, rfl, l4, l4', -⟩ := sliceR_open q4
  unfold maxLen at l1' l2' l3' l4'
  clear hx q0 q1 q2 q3 q4
  obtain ⟨zs, rfl, hs⟩ := hs
  have HZ := hs
  obtain ⟨z0, z1, rfl, zq0, zq1⟩ := schR_open hs
  have A0 := Lib.hid (fun i hi => intsR_at' zq0 (i := i) hi)
  have A1 := Lib.hid (fun i hi => intsR_at' zq1 (i := i) hi)
  obtain ⟨sp0, sk0, rfl, sl0, sl0', -⟩ := sliceR_open zq0
  obtain ⟨sp1, sk1, rfl, sl1, sl1', -⟩ := sliceR_open zq1
  unfold maxLen at sl0' sl1'
  have HT := Lib.hid hT
  have HQ1 := Lib.hid (show ∀ W, Bel w W → aggR schR T W (.agg #[.slice sp0 s.1.length sk0, .slice sp1 s.2.length sk1]) s from fun W hW => aggR_mk (schR_good.bel HZ hW HT.out))
  clear hs zq0 zq1 hT HZ
  have HS := Lib.hid hS
  have HFO := Lib.hid hf
  have HR := Lib.hid hr
  have hpl := (projOk_bd (projOk_form hf)).2.1
  clear hS hf hr
  have HP1 := Lib.hid (show ∀ W, Bel w W → aggR projR S W (.agg #[.int .i64 p.1, .slice p1 p.2.1.length k1, .slice p2 p.2.2.1.length k2, .slice p3 p.2.2.2.1.length k3, .slice p4 p.2.2.2.2.length k4]) p from fun W hW => aggR_mk (projR_good.bel HP.out hW HS.out))
  show Calls Try.prog 92 #[.agg #[.int .i64 p.1, .slice p1 p.2.1.length k1, .slice p2 p.2.2.1.length k2, .slice p3 p.2.2.2.1.length k3, .slice p4 p.2.2.2.2.length k4], .agg #[.slice sp0 s.1.length sk0, .slice sp1 s.2.length sk1], .int .i64 r, .int .i64 t] w _
  go_enter Try.func92, Try.ntmps92
  go_wp2_with fail
  refine (running_any _ p S _ s T t _ (HP1.out _ (by (repeat (first | assumption | exact Bel.refl _ | apply Bel.drewN | apply Bel.drew | apply Bel.alloc | refine Bel.trans ?_ (by assumption))))) (fun b hb => Nat.lt_of_lt_of_le (HS.out b hb) (Bel.size (by (repeat (first | assumption | exact Bel.refl _ | apply Bel.drewN | apply Bel.drew | apply Bel.alloc | refine Bel.trans ?_ (by assumption)))))) (HQ1.out _ (by (repeat (first | assumption | exact Bel.refl _ | apply Bel.drewN | apply Bel.drew | apply Bel.alloc | refine Bel.trans ?_ (by assumption))))) (fun b hb => Nat.lt_of_lt_of_le (HT.out b hb) (Bel.size (by (repeat (first | assumption | exact Bel.refl _ | apply Bel.drewN | apply Bel.drew | apply Bel.alloc | refine Bel.trans ?_ (by assumption)))))) HFO.out).mono ?_
  rintro e w1 ⟨vl, rfl, hL, g1⟩
  have b0 := g1.cell (p := ⟨w.heap.size, 0, none⟩) (v := .int .i64 p.1) (by simp [go_sem])
  have b1 := g1.cell (p := ⟨w.heap.size, 1, none⟩) (v := .slice p1 p.2.1.length k1) (by simp [go_sem])
  have b2 := g1.cell (p := ⟨w.heap.size, 2, none⟩) (v := .slice p2 p.2.2.1.length k2) (by simp [go_sem])
  have b3 := g1.cell (p := ⟨w.heap.size, 3, none⟩) (v := .slice p3 p.2.2.2.1.length k3) (by simp [go_sem])
  have b4 := g1.cell (p := ⟨w.heap.size, 4, none⟩) (v := .slice p4 p.2.2.2.2.length k4) (by simp [go_sem])
  have c0 := g1.cell (p := ⟨w.heap.size + 1, 0, none⟩) (v := .slice sp0 s.1.length sk0) (by simp [go_sem])
  have c1 := g1.cell (p := ⟨w.heap.size + 1, 1, none⟩) (v := .slice sp1 s.2.length sk1) (by simp [go_sem])
  have HIL := Lib.hid (runL_idx p s t)
  have HUV := Lib.hid (show usageV p s r t = useTo p s r (runL p s t) (runL p s t).length from rfl)
  have HLL := Lib.hid (Nat.le_trans (runL_idx p s t).1 hpl)
  generalize runL p s t = L at *
  have G : Bel w w1 := by (repeat (first | assumption | exact Bel.refl _ | apply Bel.drewN | apply Bel.drew | apply Bel.alloc | refine Bel.trans ?_ (by assumption)))
  have HLX := Lib.hid (fun i hi => intsR_at' hL (i := i) hi)
  obtain ⟨lp, lk, rfl, ll, ll', -⟩ := sliceR_open hL
  clear hL
  have hll := HLL.out
  go_wp2_with fail
  go_loopw [9, 17] (fun n i wr => ∃ (k : Nat) (c : Int), k ≤ L.length ∧ i = .int .i64 k ∧ n = .int .i64 c ∧ c = useTo p s r L k ∧ Bel w1 wr ∧ wr.cell? ⟨w.heap.size, 0, none⟩ = some (.int .i64 p.1) ∧ wr.cell? ⟨w.heap.size, 1, none⟩ = some (.slice p1 p.2.1.length k1) ∧ wr.cell? ⟨w.heap.size, 2, none⟩ = some (.slice p2 p.2.2.1.length k2) ∧ wr.cell? ⟨w.heap.size, 3, none⟩ = some (.slice p3 p.2.2.2.1.length k3) ∧ wr.cell? ⟨w.heap.size, 4, none⟩ = some (.slice p4 p.2.2.2.2.length k4) ∧ wr.cell? ⟨w.heap.size + 1, 0, none⟩ = some (.slice sp0 s.1.length sk0) ∧ wr.cell? ⟨w.heap.size + 1, 1, none⟩ = some (.slice sp1 s.2.length sk1)) (fun _ i _ => L.length - (intOf i).toNat)
  case atStart => exact ⟨0, 0, Nat.zero_le _, rfl, rfl, rfl, Bel.refl _, b0, b1, b2, b3, b4, c0, c1⟩
  case round =>
    clear b0 b1 b2 b3 b4 c0 c1
    obtain ⟨k, c, hk, rfl, rfl, hc, hB, b0, b1, b2, b3, b4, c0, c1⟩ := hrel
    have HC := Lib.hid hc; clear hc
    by_cases hlt : k < L.length
    · obtain ⟨vb, vo, ve, vd⟩ := HLX.out k hlt
      obtain rfl : lp = some ⟨vb, vo, none⟩ := ve
      have vd := hB.cell vd
      have hcb := useTo_bd HFO.out HR.out HIL.out k hk
      rw [← HC.out] at hcb
      obtain ⟨a, ha, han⟩ := HIL.out.2 k hlt
      rw [ha] at vd
      have HNX := Lib.hid (show useTo p s r L (k + 1) = c + (modeOf p s a).2.1.getD r 0 from by rw [HC.out]; simp only [useTo]; rw [ha]; rfl)
      clear ha
      have hM := modeOk_bd (modeOf_ok HFO.out han)
      have HI := Lib.hid (formAt_in HFO.out han).1
      obtain ⟨-, -, hM3, -, hM5, -⟩ := hM
      have hX5 := hM5 r HR.out
      have hrl : r < (modeOf p s a).2.1.length := by rw [hM3]; exact HR.out
      have hri : (r : Int) < ((modeOf p s a).2.1.length : Int) := by omega
      clear hM3 hM5 han
      have hll2 := HLL.out
      have hfd := modeField1
      go_wp2_with fail
      refine (iMode_any _ p S _ s T a _ (HP1.out _ (by (repeat (first | assumption | exact Bel.refl _ | apply Bel.drewN | apply Bel.drew | apply Bel.alloc | refine Bel.trans ?_ (by assumption))))) (fun b hb => Nat.lt_of_lt_of_le (HS.out b hb) (Bel.size (by (repeat (first | assumption | exact Bel.refl _ | apply Bel.drewN | apply Bel.drew | apply Bel.alloc | refine Bel.trans ?_ (by assumption)))))) (HQ1.out _ (by (repeat (first | assumption | exact Bel.refl _ | apply Bel.drewN | apply Bel.drew | apply Bel.alloc | refine Bel.trans ?_ (by assumption))))) (fun b hb => Nat.lt_of_lt_of_le (HT.out b hb) (Bel.size (by (repeat (first | assumption | exact Bel.refl _ | apply Bel.drewN | apply Bel.drew | apply Bel.alloc | refine Bel.trans ?_ (by assumption)))))) HI.out).mono ?_
      rintro e w2 ⟨⟨u0, un, y0, yn, rfl, hu, hyc⟩, g2⟩
      clear hyc
      have b0 := g2.cell b0
      have b1 := g2.cell b1
      have b2 := g2.cell b2
      have b3 := g2.cell b3
      have b4 := g2.cell b4
      have c0 := g2.cell c0
      have c1 := g2.cell c1
      obtain ⟨cb, co, ce, cd⟩ := intsR_at' hu hrl
      obtain rfl : u0 = some ⟨cb, co, none⟩ := ce
      clear hu
      generalize modeOf p s a = M at *
      generalize M.2.1.getD r 0 = Y at *
      go_wp2
      go_roundw
      case rel => exact ⟨k + 1, c + Y, by omega, by go_num, by go_num, HNX.out.symm, by (repeat (first | assumption | exact Bel.refl _ | apply Bel.drewN | apply Bel.drew | apply Bel.alloc | refine Bel.trans ?_ (by assumption))), b0, b1, b2, b3, b4, c0, c1⟩
      case measure => simp [intOf]; omega
    · have hkn : k = L.length := by omega
      have HD := Lib.hid (show c = useTo p s r L L.length from by rw [HC.out, hkn])
      clear hkn
      go_wp2
      go_ret
      exact ⟨ret_int (by rw [HD.out]; exact HUV.out.symm), by (repeat (first | assumption | exact Bel.refl _ | apply Bel.drewN | apply Bel.drew | apply Bel.alloc | refine Bel.trans ?_ (by assumption)))⟩

theorem runTo_yes {c : Int → Bool} {k : Nat} (hc : c (k : Int) = true) : (rangeL (k + 1)).filter c = (rangeL k).filter c ++ [(k : Int)] := by
  rw [rangeL_succ, List.filter_append, List.filter_cons_of_pos (by simpa using hc), List.filter_nil]
theorem runTo_no {c : Int → Bool} {k : Nat} (hc : c (k : Int) = false) : (rangeL (k + 1)).filter c = (rangeL k).filter c := by
  rw [rangeL_succ, List.filter_append, List.filter_cons_of_neg (by rw [hc]; simp), List.filter_nil, List.append_nil]
theorem runTo_le (c : Int → Bool) (k : Nat) : ((rangeL k).filter c).length ≤ k := Nat.le_trans (List.length_filter_le _ _) (by rw [rangeL_length]; exact Nat.le_refl _)


end Go.Proofs.Ytiaamddhocdhaaa
