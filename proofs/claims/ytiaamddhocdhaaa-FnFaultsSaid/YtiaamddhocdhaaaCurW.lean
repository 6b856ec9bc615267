/- Contracts of the cursor: l01New, l01Byte, l01Below, l01Once. -/
import Derived.Test.YtiaamddhocdhaaaCur
import Derived.Test.YtiaamddhocdhaaaKin
import Derived.Deep.RegionHeld3
import Derived.Deep.RegionLaw
import Derived.Deep.Cut
namespace Go.Proofs.Ytiaamddhocdhaaa
open Go.ChangeShapes Go.WideShapes Go.ChangeAt Go.RowKit
set_option linter.unusedVariables false

theorem newTo_in (C : List Int) (k : Nat) (hl : C.length ≤ 1048576) : 0 ≤ newTo C k ∧ newTo C k ≤ 1073741823 := by
  cases k with
  | zero => unfold newTo; omega
  | succ k =>
    unfold newTo
    generalize IntKind.i64.wrap (IntKind.i64.wrap (IntKind.i64.wrap (newTo C k * 59) + C.getD k 0) + 7) = x
    have h : ((BitVec.ofInt 64 x) &&& (BitVec.ofInt 64 1073741823)).toNat ≤ 1073741823 := by
      rw [BitVec.toNat_and]
      exact Nat.le_trans Nat.and_le_right (by decide)
    have e : bits .and .i64 x 1073741823 = IntKind.i64.wrap (((BitVec.ofInt 64 x) &&& (BitVec.ofInt 64 1073741823)).toNat : Int) := rfl
    generalize ((BitVec.ofInt 64 x) &&& (BitVec.ofInt 64 1073741823)).toNat = n at h e
    rw [e, IntKind.wrap_i64]
    omega
/-- What a draw leaves: the cursor in its next state, nothing else old has turned. -/
def DrR (cb : Nat) (C : List Int) (w : World) (v : Value) (s : StT) (e : Ending) (w' : World) : Prop := e = .returned v ∧ Cur w' cb C s ∧ Dr cb w w'
set_option maxHeartbeats 1000000 in
theorem l01New_any (v : Value) (C : List Int) (S : Nat → Prop) (w : World) (hx : bytesR S w [v] C) (hS : ∀ b, S b → b < w.heap.size) (hl : C.length ≤ 1048576) :
    Calls Try.prog 78 #[v] w fun e w' => ∃ cb, e = .returned (.pointer (some ⟨cb, 0, none⟩)) ∧ w.heap.size ≤ cb ∧ Cur w' cb C (newV C) ∧ Bel w w' := by
  have HX := Lib.hid (fun i hi => bytesR_at hx (i := i) hi)
  have HR := Lib.hid hx
  have HS := Lib.hid hS
  obtain ⟨p, cap, rfl, h1, h2, _⟩ := sliceR_open hx
  unfold maxLen at h2
  clear hx hS
  have hw0 : IntKind.i64.wrap (1950 + (C.length : Int)) = 1950 + (C.length : Int) := IntWalk.i64_in _ (by omega)
  go_enter Try.func78, Try.ntmps78
  go_wp2_with fail
  go_loop [3, 4] (fun h i => ∃ k : Nat, k ≤ C.length ∧ k ≤ 4000 ∧ i = .int .i64 k ∧ h = .int .i64 (newTo C k)) (fun _ i => C.length - (intOf i).toNat)
  case atStart => exact ⟨0, Nat.zero_le _, Nat.zero_le _, rfl, rfl⟩
  case round =>
    obtain ⟨k, hk, hk4, rfl, rfl⟩ := hrel
    by_cases hlt : k < C.length
    · by_cases hlt4 : k < 4000
      · obtain ⟨b, off, rfl, d0, d1, d2⟩ := HX.out k hlt
        have HN := Lib.hid (show newTo C (k + 1) = bits .and .i64 (IntKind.i64.wrap (IntKind.i64.wrap (IntKind.i64.wrap (newTo C k * 59) + C.getD k 0) + 7)) 1073741823 from rfl)
        have hb := newTo_in C k hl
        generalize C.getD k 0 = X at *
        generalize newTo C k = H at *
        have e1 : IntKind.i64.wrap (H * 59) = H * 59 := IntWalk.i64_in _ (by omega)
        have e2 : IntKind.i64.wrap (H * 59 + X) = H * 59 + X := IntWalk.i64_in _ (by omega)
        have e3 : IntKind.i64.wrap (H * 59 + X + 7) = H * 59 + X + 7 := IntWalk.i64_in _ (by omega)
        have HN := Lib.hid (show newTo C (k + 1) = bits .and .i64 (H * 59 + X + 7) 1073741823 from by rw [HN.out, e1, e2, e3])
        have hki : (k : Int) < (C.length : Int) := by omega
        have hk4i : (k : Int) < 4000 := by omega
        clear e1 e2 e3
        go_wp2
        go_round
        case rel => exact ⟨k + 1, by omega, by omega, by go_num, by rw [HN.out]⟩
        case measure => simp [intOf]; omega
      · have hk4' : k = 4000 := by omega
        have hki : (k : Int) < (C.length : Int) := by omega
        have hk4i : ¬ (k : Int) < 4000 := by omega
        have hmin : min C.length 4000 = k := by omega
        have HM := Lib.hid hmin
        have HBD := Lib.hid (newTo_in C k hl)
        clear hmin hk4'
        go_wp2
        go_ret
        refine ⟨w.heap.size, rfl, Nat.le_refl _, ⟨⟨p, cap, fun b => S b, by simp [go_sem], by simp [go_sem, newV], by simp [go_sem, newV, HM.out], ?_, bytesR_good.stay HR.out ?_, HS.out⟩, Nat.zero_le _, ?_, hl⟩, by (repeat (first | assumption | exact Bel.refl _ | apply Bel.drewN | apply Bel.drew | apply Bel.alloc | refine Bel.trans ?_ (by assumption)))⟩
        · intro j; first | (simp [World.frozen?]; done) | (unfold World.frozen?; rw [alloc_at rfl]; rfl) | (show (match (World.alloc _ _).heap[w.heap.size]? with | _ => _) = _; rw [alloc_at rfl])
        · intro b hb; exact ((Bel.refl w).alloc _).block (HS.out b hb)
        · have := HBD.out; unfold newV I64; simp only; rw [HM.out]; omega
    · obtain rfl : k = C.length := by omega
      have hmin : min C.length 4000 = C.length := by omega
      have HM := Lib.hid hmin
      have HBD := Lib.hid (newTo_in C C.length hl)
      clear hmin
      go_wp2
      go_ret
      refine ⟨w.heap.size, rfl, Nat.le_refl _, ⟨⟨p, cap, fun b => S b, by simp [go_sem], by simp [go_sem, newV], by simp [go_sem, newV, HM.out], ?_, bytesR_good.stay HR.out ?_, HS.out⟩, Nat.zero_le _, ?_, hl⟩, by (repeat (first | assumption | exact Bel.refl _ | apply Bel.drewN | apply Bel.drew | apply Bel.alloc | refine Bel.trans ?_ (by assumption)))⟩
      · intro j; first | (simp [World.frozen?]; done) | (unfold World.frozen?; rw [alloc_at rfl]; rfl) | (show (match (World.alloc _ _).heap[w.heap.size]? with | _ => _) = _; rw [alloc_at rfl])
      · intro b hb; exact ((Bel.refl w).alloc _).block (HS.out b hb)
      · have := HBD.out; unfold newV I64; simp only; rw [HM.out]; omega

theorem cellSet (w : World) {b j i : Nat} {u v : Value} (h : w.cell? ⟨b, i, none⟩ = some u) : (w.setCell ⟨b, j, none⟩ v).cell? ⟨b, i, none⟩ = some (if i = j then v else u) := by
  simp only [World.cell?] at h ⊢
  split at h
  · next c t fr hh =>
    simp only [World.setCell, Array.getElem?_modify, hh]
    simp only [if_true, Option.map_some, Option.isSome_none, Bool.false_eq_true, if_false, Array.getElem?_setIfInBounds] at h ⊢
    have hlt : i < c.size := (Array.getElem?_eq_some_iff.1 h).1
    by_cases e : i = j
    · subst e; simp [hlt]
    · rw [if_neg (Ne.symm e), if_neg e]; exact h
  · simp at h
theorem Cur.set {w : World} {cb : Nat} {C : List Int} {s t : StT} (h : Cur w cb C s) {j : Nat} {u : Int} (hj : (j = 1 ∧ t = (u.toNat, s.2) ∧ 0 ≤ u ∧ u ≤ C.length) ∨ (j = 2 ∧ t = (s.1, u) ∧ I64 u)) : Cur (w.setCell ⟨cb, j, none⟩ (.int .i64 u)) cb C t := by
  obtain ⟨p, cap, K, h1, h2, h3, h4, h5, h6⟩ := h.ex
  have hk : ∀ b, K b → (w.setCell ⟨cb, j, none⟩ (.int .i64 u)).heap[b]? = w.heap[b]? := fun b hb => Below.heap_setCell _ _ _ _ (show b ≠ cb by have := h6 b hb; omega)
  have g0 := cellSet w (j := j) (v := .int .i64 u) h1
  have g1 := cellSet w (j := j) (v := .int .i64 u) h2
  have g2 := cellSet w (j := j) (v := .int .i64 u) h3
  rcases hj with ⟨rfl, rfl, hu0, hu1⟩ | ⟨rfl, rfl, hu⟩
  · rw [if_neg (by decide)] at g0 g2
    rw [if_pos rfl] at g1
    exact ⟨⟨p, cap, K, g0, by rw [g1]; simp only; rw [Int.toNat_of_nonneg hu0], g2, fun k => by rw [frozen_set]; exact h4 k, bytesR_good.stay h5 hk, h6⟩, by simp only; omega, h.i64, h.len⟩
  · rw [if_neg (by decide)] at g0 g1
    rw [if_pos rfl] at g2
    exact ⟨⟨p, cap, K, g0, g1, g2, fun k => by rw [frozen_set]; exact h4 k, bytesR_good.stay h5 hk, h6⟩, h.le, hu, h.len⟩
set_option maxHeartbeats 1000000 in
theorem l01Byte_any (cb : Nat) (C : List Int) (s : StT) (w : World) (h : Cur w cb C s) :
    Calls Try.prog 178 #[.pointer (some ⟨cb, 0, none⟩)] w (DrR cb C w (.int .i64 (byteV C s).1) (byteV C s).2) := by
  have H0 := Lib.hid h
  have HD0 := Lib.hid (Dr.refl cb w)
  obtain ⟨p, cap, K, h1, h2, h3, h4, h5, h6⟩ := h.ex
  have hle := h.le
  have hln := h.len
  have h4a := h4 2
  have h4b := h4 1
  have HF := Lib.hid h4
  have HH := Lib.hid (show hashV s.2 = IntKind.i64.wrap (IntKind.i64.wrap (s.2 * 6364136223846793005) + 1442695040888963407) from rfl)
  clear h h4 h5 h6
  go_enter Try.func178, Try.ntmps178
  go_wp2_with fail
  obtain ⟨H, hH⟩ : ∃ H, wrap64 (wrap64 (s.2 * 6364136223846793005) + 1442695040888963407) = H := ⟨_, rfl⟩
  rw [hH]
  have HV := Lib.hid (show hashV s.2 = H from by unfold hashV; rw [IntWalk.i64_left, IntWalk.i64_left]; exact hH)
  have hI : I64 H := by rw [← HV.out]; exact wrap_i64 _
  have HC1 := Lib.hid (H0.out.set (j := 2) (.inr ⟨rfl, rfl, hI⟩))
  have HD1 := Lib.hid (HD0.out.put 2 (.int .i64 H))
  clear hH h1 h2 h3 h4a h4b HH
  generalize w.setCell ⟨cb, 2, none⟩ (.int .i64 H) = W at *
  obtain ⟨p, cap, K, h1, h2, h3, h4, h5, h6⟩ := HC1.out.ex
  have HX := Lib.hid (fun i hi => bytesR_at h5 (i := i) hi)
  have h4b := h4 1
  simp only at h1 h2 h3
  clear h4 h5 h6
  have HM := Lib.hid (show mixV H = bits .and .i64 (bits .xor .i64 (H / 8589934592) (H / 35184372088832)) 255 from rfl)
  go_region
  rw [show bits .and .i64 (bits .xor .i64 (H / 8589934592) (H / 35184372088832)) 255 = mixV H from rfl]
  have hm := and255 (bits .xor .i64 (H / 8589934592) (H / 35184372088832))
  rw [← HM.out] at hm
  clear HM
  generalize hM : mixV H = M at *
  have HM := Lib.hid hM
  clear hM
  go_wp2_with fail
  go_region
  by_cases hlt : s.1 < C.length
  · obtain ⟨b, off, hp, d0, d1, d2⟩ := HX.out s.1 hlt
    obtain rfl : p = some ⟨b, off, none⟩ := hp
    have HR := Lib.hid (show byteV C s = (bits .and .i64 (M + C.getD s.1 0) 255, (s.1 + 1, H)) from by unfold byteV; rw [if_pos hlt, HV.out, HM.out])
    generalize C.getD s.1 0 = X at *
    have e1 : IntKind.i64.wrap (M + X) = M + X := IntWalk.i64_in _ (by omega)
    have hki : (s.1 : Int) < (C.length : Int) := by omega
    have HC2 := Lib.hid (HC1.out.set (j := 1) (u := (s.1 : Int) + 1) (.inl ⟨rfl, rfl, by omega, by omega⟩))
    have HD2 := Lib.hid (HD1.out.put 1 (.int .i64 ((s.1 : Int) + 1)))
    have es : ((s.1 : Int) + 1).toNat = s.1 + 1 := by omega
    have HES := Lib.hid es
    have HD2 := HD2.out
    clear es
    go_wp2_with fail
    go_region
    go_wp2_with fail
    go_ret
    exact ⟨by rw [HR.out]; first | done | rfl, by rw [HR.out, ← HES.out]; exact HC2.out.bel (by (repeat (first | assumption | exact Bel.refl _ | apply Bel.drewN | apply Bel.drew | apply Bel.alloc | refine Bel.trans ?_ (by assumption)))), by (repeat (first | assumption | exact Dr.refl _ _ | (with_reducible apply Dr.drewN) | (with_reducible apply Dr.drew) | (with_reducible apply Dr.alloc) | refine Dr.trans ?_ (by assumption)))⟩
  · have HD1 := HD1.out
    have HR := Lib.hid (show byteV C s = (M, (s.1, H)) from by unfold byteV; rw [if_neg hlt, HV.out, HM.out])
    have hki : ¬ (s.1 : Int) < (C.length : Int) := by omega
    go_wp2_with fail
    go_ret
    exact ⟨by rw [HR.out]; first | done | rfl, by rw [HR.out]; exact HC1.out.bel (by (repeat (first | assumption | exact Bel.refl _ | apply Bel.drewN | apply Bel.drew | apply Bel.alloc | refine Bel.trans ?_ (by assumption)))), by (repeat (first | assumption | exact Dr.refl _ _ | (with_reducible apply Dr.drewN) | (with_reducible apply Dr.drew) | (with_reducible apply Dr.alloc) | refine Dr.trans ?_ (by assumption)))⟩

set_option maxHeartbeats 1000000 in
theorem l01Below_any (cb : Nat) (C : List Int) (s : StT) (n : Int) (w : World) (h : Cur w cb C s) (hn : n ≤ 256) :
    Calls Try.prog 139 #[.pointer (some ⟨cb, 0, none⟩), .int .i64 n] w (DrR cb C w (.int .i64 (belowV C n s).1) (belowV C n s).2) := by
  have H0 := Lib.hid h
  have HD0 := Lib.hid (Dr.refl cb w)
  clear h
  by_cases h0 : n ≤ 0
  · have HR := Lib.hid (show belowV C n s = (0, s) from by unfold belowV; rw [if_pos h0])
    go_enter Try.func139, Try.ntmps139
    go_wp2_with fail
    go_ret
    exact ⟨by rw [HR.out]; first | done | rfl, by rw [HR.out]; exact H0.out, HD0.out⟩
  · have HR := Lib.hid (show belowV C n s = ((byteV C s).1 % n, (byteV C s).2) from by unfold belowV; rw [if_neg h0])
    have hb := byteV_in C s
    have hm : ((byteV C s).1).tmod n = (byteV C s).1 % n := Int.tmod_eq_emod_of_nonneg hb.1
    go_enter Try.func139, Try.ntmps139
    go_wp2_with fail
    refine (l01Byte_any cb C s _ H0.out).mono ?_
    rintro e w1 ⟨rfl, hc1, hd1⟩
    have HC1 := Lib.hid hc1
    have HD1 := hd1
    clear hc1
    have hr := Int.emod_nonneg (byteV C s).1 (show n ≠ 0 by omega)
    have hr2 := Int.emod_lt_of_pos (byteV C s).1 (show 0 < n by omega)
    go_wp2_with fail
    go_ret
    exact ⟨by rw [HR.out]; first | done | rfl, by rw [HR.out]; exact HC1.out.bel (by (repeat (first | assumption | exact Bel.refl _ | apply Bel.drewN | apply Bel.drew | apply Bel.alloc | refine Bel.trans ?_ (by assumption)))), by (repeat (first | assumption | exact Dr.refl _ _ | (with_reducible apply Dr.drewN) | (with_reducible apply Dr.drew) | (with_reducible apply Dr.alloc) | refine Dr.trans ?_ (by assumption)))⟩

theorem l01Once_any (cb : Nat) (C : List Int) (s : StT) (n : Int) (w : World) (h : Cur w cb C s) (hn : n ≤ 256) :
    Calls Try.prog 141 #[.pointer (some ⟨cb, 0, none⟩), .int .i64 n] w (DrR cb C w (.bool (onceV C n s).1) (onceV C n s).2) := by
  have H0 := Lib.hid h
  have HR := Lib.hid (show onceV C n s = (decide ((belowV C n s).1 = 0), (belowV C n s).2) from rfl)
  clear h
  go_enter Try.func141, Try.ntmps141
  go_wp2_with fail
  refine (l01Below_any cb C s n _ H0.out hn).mono ?_
  rintro e w1 ⟨rfl, hc1, hd1⟩
  have HC1 := Lib.hid hc1
  have HD1 := hd1
  clear hc1
  go_wp2_with fail
  go_ret
  exact ⟨by rw [HR.out]; first | rfl | (congr 2; simp [BEq.beq]), by rw [HR.out]; exact HC1.out.bel (by (repeat (first | assumption | exact Bel.refl _ | apply Bel.drewN | apply Bel.drew | apply Bel.alloc | refine Bel.trans ?_ (by assumption)))), by (repeat (first | assumption | exact Dr.refl _ _ | (with_reducible apply Dr.drewN) | (with_reducible apply Dr.drew) | (with_reducible apply Dr.alloc) | refine Dr.trans ?_ (by assumption)))⟩

end Go.Proofs.Ytiaamddhocdhaaa
