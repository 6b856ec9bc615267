/- Contracts of markT: what is written lies in blocks of S and keeps its kind; the count of leaves. -/
import Derived.Test.YtjeeajgijdcdbaaKin
import Derived.Test.YtjeeajgijdcdbaaIn
import Derived.Laws.BytesArg
namespace Go.Proofs.Ytjeeajgijdcdbaa
open Go.ChangeShapes Go.WideShapes Go.ChangeAt Go.RowKit
set_option linter.unusedVariables false



set_option maxHeartbeats 1000000 in
theorem markIntS_kin (v : Value) (xs : List (Int)) (S : Nat → Prop) (k : Int) (w0 w : World) (hx0 : intsR S w0 [v] xs) (hK0 : Kin w0 w) (h0 : 0 ≤ k) (h1 : k + cntInts xs ≤ 1099511627776) :
    Calls Try.prog 18 #[v, .int .i64 k] w fun e w' => e = .returned (.int .i64 (k + cntInts xs)) ∧ Mut S w w' ∧ Kin w w' := by
  obtain ⟨p, cap, rfl, l1, l2, -⟩ := sliceR_open hx0
  obtain ⟨L, hL⟩ : ∃ L : List Nat, xs.map (fun _ => 1) = L := ⟨_, rfl⟩
  have hcs : cntInts xs = sumL L := by rw [← hL]; rfl
  rw [hcs] at h1 ⊢
  have HX0 := Lib.hid (markEnd kinded_int hx0 hL hK0)
  obtain ⟨len, hlen⟩ : ∃ n, xs.length = n := ⟨_, rfl⟩
  have hLl : L.length = len := by rw [← hL, List.length_map, hlen]
  have HLL := Lib.hid hLl
  rw [hlen] at HX0 l1 ⊢
  unfold maxLen at l2
  clear hx0 hcs hL hlen hLl hK0
  go_enter Try.func18, Try.ntmps18
  go_wp2_with fail
  go_loopw [1, 5] (fun kk ii wr => ∃ (i : Nat), i ≤ len ∧ ii = .int .i64 i ∧ kk = .int .i64 (k + (sumL (L.take i) : Nat)) ∧ (∃ xs' : List (Int), intsR S wr [.slice p len cap] xs' ∧ xs'.map (fun _ => 1) = L) ∧ Mut S w wr ∧ Kin w wr) (fun _ ii _ => len - (intOf ii).toNat)
  case atStart => exact ⟨0, Nat.zero_le _, rfl, by simp [sumL], HX0.out, Mut.refl _ _, Kin.refl _⟩
  case round =>
    obtain ⟨i, hi, rfl, rfl, ⟨xs', hr, hm⟩, hM, hK⟩ := hrel
    have HR := Lib.hid hr
    have HMm := Lib.hid hm
    have HM := Lib.hid hM
    have HK := Lib.hid hK
    have hs0 := sumTake_le L i
    by_cases hlt : i < len
    · have hl' : i < L.length := by rw [HLL.out]; exact hlt
      have hlx : i < xs'.length := by have h9 := congrArg List.length hm; rw [List.length_map, HLL.out] at h9; omega
      have hst := sumTake L i hl'
      have hs1 := sumTake_le L (i + 1)
      have hLi : L[i] = (fun _ => 1) (xs'.getD i 0) := by
        have h9 : (xs'.map (fun _ => 1))[i]'(by simpa using hlx) = L[i] := by simp only [hm]
        rw [← h9, List.getElem_map]
        try simp [List.getD, hlx]
      obtain ⟨p', cap', hv, _, _, h4⟩ := sliceR_open hr
      obtain ⟨rfl, hll, rfl⟩ : p = p' ∧ len = xs'.length ∧ cap = cap' := by simpa using hv
      obtain ⟨b, off, ecs, rfl, e2, e3, e4, e5⟩ := h4 i hlx
      have hgd : xs'.getD i 0 = xs'[i] := by simp [List.getD, hlx]
      rw [← hgd] at e5
      clear hr hm hM hK hv h4 hgd hlx hll
      generalize xs'.getD i 0 = X at *
      obtain ⟨rfl, _⟩ := e5
      have d0 := (e4 0 (by simp)).1
      have f0 := (e4 0 (by simp)).2
      simp only [List.getElem_cons_zero, Nat.mul_one, Nat.add_zero] at d0
      simp only [Nat.mul_one, Nat.add_zero] at f0
      have HS := Lib.hid e2
      obtain ⟨s, hs⟩ : ∃ s, sumL (L.take i) = s := ⟨_, rfl⟩
      rw [hs, hLi] at hst
      rw [hs] at hs0
      rw [hs]
      have HST := Lib.hid hst
      have hsb : s + (fun _ => 1) X ≤ sumL L := by rw [← hst]; exact hs1
      clear hst hs1 hLi hs e2 e3 e4 hl'
      try clear e5
      have hii : (i : Int) < (len : Int) := by omega
      have hcx : s + 1 ≤ sumL L := hsb
      clear hsb
      have HST2 := Lib.hid (show sumL (L.take (i + 1)) = s + 1 from HST.out)
      have D0 := Lib.hid d0
      go_wp2
      go_roundw
      case rel => exact ⟨i + 1, by omega, by go_num, by rw [HST2.out]; go_num, markEnd kinded_int HR.out HMm.out (by exact ((Kin.refl wr).setInt D0.out (by unfold I64; omega))), HM.out.trans (by exact ((Mut.refl S wr).set b _ _ HS.out)), HK.out.trans (by exact ((Kin.refl wr).setInt D0.out (by unfold I64; omega)))⟩
      case measure => simp [intOf]; omega
    · have hil : i = len := by omega
      have HD := Lib.hid (show k + (sumL (L.take i) : Nat) = k + (sumL L : Nat) from by rw [hil, ← HLL.out, List.take_length])
      clear hil
      go_wp2
      go_ret
      exact ⟨ret_int HD.out, HM.out, HK.out⟩

set_option maxHeartbeats 1000000 in
theorem markIntSS_kin (v : Value) (xs : List (List Int)) (S : Nat → Prop) (k : Int) (w0 w : World) (hx0 : rowsR S w0 [v] xs) (hK0 : Kin w0 w) (h0 : 0 ≤ k) (h1 : k + cntRows xs ≤ 1099511627776) :
    Calls Try.prog 19 #[v, .int .i64 k] w fun e w' => e = .returned (.int .i64 (k + cntRows xs)) ∧ Mut S w w' ∧ Kin w w' := by
  obtain ⟨p, cap, rfl, l1, l2, -⟩ := sliceR_open hx0
  obtain ⟨L, hL⟩ : ∃ L : List Nat, xs.map (cntInts) = L := ⟨_, rfl⟩
  have hcs : cntRows xs = sumL L := by rw [← hL]; rfl
  rw [hcs] at h1 ⊢
  have HX0 := Lib.hid (markEnd ints_kin hx0 hL hK0)
  obtain ⟨len, hlen⟩ : ∃ n, xs.length = n := ⟨_, rfl⟩
  have hLl : L.length = len := by rw [← hL, List.length_map, hlen]
  have HLL := Lib.hid hLl
  rw [hlen] at HX0 l1 ⊢
  unfold maxLen at l2
  clear hx0 hcs hL hlen hLl hK0
  go_enter Try.func19, Try.ntmps19
  go_wp2_with fail
  go_loopw [1, 5] (fun kk ii wr => ∃ (i : Nat), i ≤ len ∧ ii = .int .i64 i ∧ kk = .int .i64 (k + (sumL (L.take i) : Nat)) ∧ (∃ xs' : List (List Int), rowsR S wr [.slice p len cap] xs' ∧ xs'.map (cntInts) = L) ∧ Mut S w wr ∧ Kin w wr) (fun _ ii _ => len - (intOf ii).toNat)
  case atStart => exact ⟨0, Nat.zero_le _, rfl, by simp [sumL], HX0.out, Mut.refl _ _, Kin.refl _⟩
  case round =>
    obtain ⟨i, hi, rfl, rfl, ⟨xs', hr, hm⟩, hM, hK⟩ := hrel
    have HR := Lib.hid hr
    have HMm := Lib.hid hm
    have HM := Lib.hid hM
    have HK := Lib.hid hK
    have hs0 := sumTake_le L i
    by_cases hlt : i < len
    · have hl' : i < L.length := by rw [HLL.out]; exact hlt
      have hlx : i < xs'.length := by have h9 := congrArg List.length hm; rw [List.length_map, HLL.out] at h9; omega
      have hst := sumTake L i hl'
      have hs1 := sumTake_le L (i + 1)
      have hLi : L[i] = (cntInts) (xs'.getD i []) := by
        have h9 : (xs'.map (cntInts))[i]'(by simpa using hlx) = L[i] := by simp only [hm]
        rw [← h9, List.getElem_map]
        try simp [List.getD, hlx]
      obtain ⟨p', cap', hv, _, _, h4⟩ := sliceR_open hr
      obtain ⟨rfl, hll, rfl⟩ : p = p' ∧ len = xs'.length ∧ cap = cap' := by simpa using hv
      obtain ⟨b, off, ecs, rfl, e2, e3, e4, e5⟩ := h4 i hlx
      have hgd : xs'.getD i [] = xs'[i] := by simp [List.getD, hlx]
      rw [← hgd] at e5
      clear hr hm hM hK hv h4 hgd hlx hll
      generalize xs'.getD i [] = X at *
      have eq0 := e5
      obtain ⟨ec0, hec⟩ : ∃ c, ecs = [c] := by match ecs, e3 with | [c], _ => exact ⟨c, rfl⟩
      subst hec
      obtain ⟨ec0p, ec0k, rfl, -⟩ := sliceR_open eq0
      have d0 := (e4 0 (by simp)).1
      have f0 := (e4 0 (by simp)).2
      simp only [List.getElem_cons_zero, Nat.mul_one, Nat.add_zero] at d0
      simp only [Nat.mul_one, Nat.add_zero] at f0
      have HS := Lib.hid e2
      obtain ⟨s, hs⟩ : ∃ s, sumL (L.take i) = s := ⟨_, rfl⟩
      rw [hs, hLi] at hst
      rw [hs] at hs0
      rw [hs]
      have HST := Lib.hid hst
      have hsb : s + (cntInts) X ≤ sumL L := by rw [← hst]; exact hs1
      clear hst hs1 hLi hs e2 e3 e4 hl'
      try clear e5
      have hii : (i : Int) < (len : Int) := by omega
      have hcx : s + (cntInts X) ≤ sumL L := hsb
      clear hsb
      obtain ⟨n0, hn0⟩ : ∃ n, cntInts X = n := ⟨_, rfl⟩
      have HST2 := Lib.hid (show sumL (L.take (i + 1)) = s + (n0) from by rw [HST.out, ← hn0]; try rfl)
      rw [hn0] at hcx
      have HN0 := Lib.hid hn0
      clear hn0
      have HQ0 := Lib.hid eq0
      clear eq0
      have D0 := Lib.hid d0
      go_wp2_with fail
      refine (markIntS_kin _ X S _ wr _ HQ0.out (by exact (Kin.refl wr)) (by omega) (by rw [HN0.out]; omega)).mono ?_
      rintro e v1 ⟨rfl, Mv1, Kv1⟩
      rw [HN0.out]
      have KKv1 : Kin wr v1 := Kin.trans (by exact (Kin.refl wr)) Kv1
      have MMv1 : Mut S wr v1 := Mut.trans (by exact (Mut.refl S wr)) Mv1
      go_wp2
      go_roundw
      case rel => exact ⟨i + 1, by omega, by go_num, by rw [HST2.out]; go_num, markEnd ints_kin HR.out HMm.out (by exact KKv1), HM.out.trans (by exact MMv1), HK.out.trans (by exact KKv1)⟩
      case measure => simp [intOf]; omega
    · have hil : i = len := by omega
      have HD := Lib.hid (show k + (sumL (L.take i) : Nat) = k + (sumL L : Nat) from by rw [hil, ← HLL.out, List.take_length])
      clear hil
      go_wp2
      go_ret
      exact ⟨ret_int HD.out, HM.out, HK.out⟩






set_option maxHeartbeats 1000000 in
theorem markSchedule_kin (v : Value) (x : SchT) (S : Nat → Prop) (k : Int) (w : World) (U : Int) (hU : U ≤ 1099511627776) (hx : aggR schR S w v x) (h0 : 0 ≤ k) (h1 : k + cntSch x ≤ U) :
    Calls Try.prog 10 #[v, .int .i64 k] w fun e w' => ∃ k', e = .returned (.int .i64 k') ∧ 0 ≤ k' ∧ k' ≤ U ∧ Mut S w w' := by
  obtain ⟨cs, rfl, hx⟩ := hx
  obtain ⟨c0, c1, rfl, q0, q1⟩ := schR_open hx
  have H0 := Lib.hid q0
  have H1 := Lib.hid q1
  obtain ⟨c0p, c0k, rfl, _⟩ := sliceR_open q0
  obtain ⟨c1p, c1k, rfl, _⟩ := sliceR_open q1
  clear hx q0 q1
  have hc : k + ((cntInts x.1 + cntInts x.2 : Nat) : Int) ≤ U := h1
  clear h1
  obtain ⟨n0, hn0⟩ : ∃ n, cntInts x.1 = n := ⟨_, rfl⟩
  obtain ⟨n1, hn1⟩ : ∃ n, cntInts x.2 = n := ⟨_, rfl⟩
  rw [hn0, hn1] at hc
  have HN0 := Lib.hid hn0; clear hn0
  have HN1 := Lib.hid hn1; clear hn1
  show Calls Try.prog 10 #[.agg #[.slice c0p (x.1).length c0k, .slice c1p (x.2).length c1k], .int .i64 k] w _
  go_enter Try.func10, Try.ntmps10
  go_wp2_with fail
  refine (markIntS_kin _ x.1 S _ w _ H0.out (by exact (Kin.ofBel (by (repeat (first | assumption | exact Bel.refl _ | apply Bel.drewN | apply Bel.drew | apply Bel.alloc | refine Bel.trans ?_ (by assumption)))))) (by omega) (by rw [HN0.out]; omega)).mono ?_
  rintro e v1 ⟨rfl, Mv1, Kv1⟩
  rw [HN0.out]
  have KKv1 : Kin w v1 := Kin.trans (by exact (Kin.ofBel (by (repeat (first | assumption | exact Bel.refl _ | apply Bel.drewN | apply Bel.drew | apply Bel.alloc | refine Bel.trans ?_ (by assumption)))))) Kv1
  have MMv1 : Mut S w v1 := Mut.trans (by exact (Mut.ofBel (by (repeat (first | assumption | exact Bel.refl _ | apply Bel.drewN | apply Bel.drew | apply Bel.alloc | refine Bel.trans ?_ (by assumption)))))) Mv1
  have b1 := Kv1.slice (b := w.heap.size) (o := 1) (p := c1p) (n := (x.2).length) (c := c1k) (by simp [go_sem])
  go_wp2_with fail
  refine (markIntS_kin _ x.2 S _ w _ H1.out (by exact KKv1) (by omega) (by rw [HN1.out]; omega)).mono ?_
  rintro e v2 ⟨rfl, Mv2, Kv2⟩
  rw [HN1.out]
  have KKv2 : Kin w v2 := Kin.trans (by exact KKv1) Kv2
  have MMv2 : Mut S w v2 := Mut.trans (by exact MMv1) Mv2
  go_wp2
  go_ret
  exact ⟨_, rfl, by omega, by omega, MMv2⟩

set_option maxHeartbeats 1000000 in
theorem markDomain_kin (v : Value) (x : DomT) (S : Nat → Prop) (k : Int) (w : World) (U : Int) (hU : U ≤ 1099511627776) (hx : aggR domR S w v x) (h0 : 0 ≤ k) (h1 : k + cntDom x ≤ U) :
    Calls Try.prog 11 #[v, .int .i64 k] w fun e w' => ∃ k', e = .returned (.int .i64 k') ∧ 0 ≤ k' ∧ k' ≤ U ∧ Mut S w w' := by
  obtain ⟨cs, rfl, hx⟩ := hx
  obtain ⟨c0, c1, c2, rfl, q0, q1, q2⟩ := domR_open hx
  have H0 := Lib.hid q0
  have H1 := Lib.hid q1
  have H2 := Lib.hid q2
  obtain ⟨c0p, c0k, rfl, _⟩ := sliceR_open q0
  obtain ⟨c1p, c1k, rfl, _⟩ := sliceR_open q1
  obtain ⟨c2p, c2k, rfl, _⟩ := sliceR_open q2
  clear hx q0 q1 q2
  have hc : k + ((cntInts x.1 + (cntInts x.2.1 + cntRows x.2.2) : Nat) : Int) ≤ U := h1
  clear h1
  obtain ⟨n0, hn0⟩ : ∃ n, cntInts x.1 = n := ⟨_, rfl⟩
  obtain ⟨n1, hn1⟩ : ∃ n, cntInts x.2.1 = n := ⟨_, rfl⟩
  obtain ⟨n2, hn2⟩ : ∃ n, cntRows x.2.2 = n := ⟨_, rfl⟩
  rw [hn0, hn1, hn2] at hc
  have HN0 := Lib.hid hn0; clear hn0
  have HN1 := Lib.hid hn1; clear hn1
  have HN2 := Lib.hid hn2; clear hn2
  show Calls Try.prog 11 #[.agg #[.slice c0p (x.1).length c0k, .slice c1p (x.2.1).length c1k, .slice c2p (x.2.2).length c2k], .int .i64 k] w _
  go_enter Try.func11, Try.ntmps11
  go_wp2_with fail
  refine (markIntS_kin _ x.1 S _ w _ H0.out (by exact (Kin.ofBel (by (repeat (first | assumption | exact Bel.refl _ | apply Bel.drewN | apply Bel.drew | apply Bel.alloc | refine Bel.trans ?_ (by assumption)))))) (by omega) (by rw [HN0.out]; omega)).mono ?_
  rintro e v1 ⟨rfl, Mv1, Kv1⟩
  rw [HN0.out]
  have KKv1 : Kin w v1 := Kin.trans (by exact (Kin.ofBel (by (repeat (first | assumption | exact Bel.refl _ | apply Bel.drewN | apply Bel.drew | apply Bel.alloc | refine Bel.trans ?_ (by assumption)))))) Kv1
  have MMv1 : Mut S w v1 := Mut.trans (by exact (Mut.ofBel (by (repeat (first | assumption | exact Bel.refl _ | apply Bel.drewN | apply Bel.drew | apply Bel.alloc | refine Bel.trans ?_ (by assumption)))))) Mv1
  have b1 := Kv1.slice (b := w.heap.size) (o := 1) (p := c1p) (n := (x.2.1).length) (c := c1k) (by simp [go_sem])
  have b2 := Kv1.slice (b := w.heap.size) (o := 2) (p := c2p) (n := (x.2.2).length) (c := c2k) (by simp [go_sem])
  go_wp2_with fail
  refine (markIntS_kin _ x.2.1 S _ w _ H1.out (by exact KKv1) (by omega) (by rw [HN1.out]; omega)).mono ?_
  rintro e v2 ⟨rfl, Mv2, Kv2⟩
  rw [HN1.out]
  have KKv2 : Kin w v2 := Kin.trans (by exact KKv1) Kv2
  have MMv2 : Mut S w v2 := Mut.trans (by exact MMv1) Mv2
  have b2 := Kv2.slice (b := w.heap.size) (o := 2) (p := c2p) (n := (x.2.2).length) (c := c2k) b2
  go_wp2_with fail
  refine (markIntSS_kin _ x.2.2 S _ w _ H2.out (by exact KKv2) (by omega) (by rw [HN2.out]; omega)).mono ?_
  rintro e v3 ⟨rfl, Mv3, Kv3⟩
  rw [HN2.out]
  have KKv3 : Kin w v3 := Kin.trans (by exact KKv2) Kv3
  have MMv3 : Mut S w v3 := Mut.trans (by exact MMv2) Mv3
  go_wp2
  go_ret
  exact ⟨_, rfl, by omega, by omega, MMv3⟩


end Go.Proofs.Ytjeeajgijdcdbaa
