/- Contracts of markT: what is written lies in blocks of S and keeps its kind; the count of leaves. -/
import Derived.Test.YtiaamddhocdhaaaKin
import Derived.Test.YtiaamddhocdhaaaIn
import Derived.Laws.BytesArg
namespace Go.Proofs.Ytiaamddhocdhaaa
open Go.ChangeShapes Go.WideShapes Go.ChangeAt Go.RowKit
set_option linter.unusedVariables false

theorem oneByte (w : World) (x : Int) : (convert 38 9 (.slice (some ⟨w.heap.size, 0, none⟩) 1 1)).run Try.prog (w.alloc (.cells #[.int .u8 x] 5)) = .ok (.string (strOfNums [x])) (w.alloc (.cells #[.int .u8 x] 5)) := by
  refine run_convert_bytes_arg _ 38 5 Try.underlying38 Try.underlying5 w.heap.size 0 1 1 [x] rfl (fun i hi => ?_) 9 Try.underlying9
  obtain rfl : i = 0 := by omega
  simp [go_sem]

set_option maxHeartbeats 400000 in
theorem markText_any (k : Int) (w : World) (h0 : 0 ≤ k) (h1 : k ≤ 1099511627776) :
    Calls Try.prog 163 #[.int .i64 k] w fun e w' => ∃ s : ByteArray, e = .returned (.string s) ∧ s.size ≤ maxLen ∧ Bel w w' := by
  by_cases hk : k ≤ 0
  · go_enter Try.func163, Try.ntmps163
    go_wp2
    go_ret
    exact ⟨_, rfl, by decide, Bel.refl _⟩
  go_enter Try.func163, Try.ntmps163
  go_wp2_with fail
  go_loopw [0, 3] (fun kk out wr => ∃ (j : Int) (s : ByteArray), 0 ≤ j ∧ kk = .int .i64 j ∧ out = .string s ∧ (s.size : Int) + j ≤ k ∧ Bel w wr) (fun kk _ _ => (intOf kk).toNat)
  case atStart => exact ⟨k, ⟨#[]⟩, h0, rfl, rfl, by show ((0 : Nat) : Int) + k ≤ k; omega, Bel.refl _⟩
  case round =>
    obtain ⟨j, s, hj, rfl, rfl, hs, hB⟩ := hrel
    by_cases hlt : 0 < j
    · have hm0 : 0 ≤ j % 10 := by omega
      have hm1 : j % 10 < 10 := by omega
      have hcv := oneByte wr
      have hs1 : ∀ x : Int, (strOfNums [x]).size = 1 := fun x => strOfNums_size [x]
      have hs2 : ¬ (9223372036854775807 < 1 + s.size) := by omega
      go_wp2
      go_roundw
      case rel => exact ⟨j / 10, strOfNums [48 + j % 10] ++ s, by omega, rfl, rfl, by rw [ByteArray.size_append, hs1]; omega, by (repeat (first | assumption | exact Bel.refl _ | apply Bel.drewN | apply Bel.drew | apply Bel.alloc | refine Bel.trans ?_ (by assumption)))⟩
      case measure => simp [intOf]; omega
    · go_wp2
      go_ret
      exact ⟨_, rfl, by show ((ByteArray.mk #[109]) ++ s).size ≤ maxLen; rw [ByteArray.size_append]; unfold maxLen; have : (ByteArray.mk #[109]).size = 1 := rfl; omega, hB⟩

set_option maxHeartbeats 1000000 in
theorem markIntS_kin (v : Value) (xs : List (Int)) (S : Nat → Prop) (k : Int) (w0 w : World) (hx0 : intsR S w0 [v] xs) (hK0 : Kin w0 w) (h0 : 0 ≤ k) (h1 : k + cntInts xs ≤ 1099511627776) :
    Calls Try.prog 120 #[v, .int .i64 k] w fun e w' => e = .returned (.int .i64 (k + cntInts xs)) ∧ Mut S w w' ∧ Kin w w' := by
  obtain ⟨p, cap, rfl, l1, l2, -⟩ := sliceR_open hx0
  obtain ⟨L, hL⟩ : ∃ L : List Nat, xs.map (fun _ => 1) = L := ⟨_, rfl⟩
  have hcs : cntInts xs = sumL L := by rw [← hL]; rfl
  rw [hcs] at h1 ⊢
  have HX0 := Lib.hid (markEnd kinded_int hx0 hL hK0)
  obtain ⟨len, hlen⟩ : ∃ n, xs.length = n := ⟨_, rfl⟩
  have hLl : L.length = len := by rw [← hL, List.length_map, hlen]
  have HLL := Lib.hid hLl
  rw [hlen] at HX0 l1 ⊢
  unfold maxLen at l2
  clear hx0 hcs hL hlen hLl hK0
  go_enter Try.func120, Try.ntmps120
  go_wp2_with fail
  go_loopw [1, 5] (fun kk ii wr => ∃ (i : Nat), i ≤ len ∧ ii = .int .i64 i ∧ kk = .int .i64 (k + (sumL (L.take i) : Nat)) ∧ (∃ xs' : List (Int), intsR S wr [.slice p len cap] xs' ∧ xs'.map (fun _ => 1) = L) ∧ Mut S w wr ∧ Kin w wr) (fun _ ii _ => len - (intOf ii).toNat)
  case atStart => exact ⟨0, Nat.zero_le _, rfl, by simp [sumL], HX0.out, Mut.refl _ _, Kin.refl _⟩
  case round =>
    obtain ⟨i, hi, rfl, rfl, ⟨xs', hr, hm⟩, hM, hK⟩ := hrel
    have HR := Lib.hid hr
    have HMm := Lib.hid hm
    have HM := Lib.hid hM
    have HK := Lib.hid hK
    have hs0 := sumTake_le L i
    by_cases hlt : i < len
    · have hl' : i < L.length := by rw [HLL.out]; exact hlt
      have hlx : i < xs'.length := by have h9 := congrArg List.length hm; rw [List.length_map, HLL.out] at h9; omega
      have hst := sumTake L i hl'
      have hs1 := sumTake_le L (i + 1)
      have hLi : L[i] = (fun _ => 1) (xs'.getD i 0) := by
        have h9 : (xs'.map (fun _ => 1))[i]'(by simpa using hlx) = L[i] := by simp only [hm]
        rw [← h9, List.getElem_map]
        try simp [List.getD, hlx]
      obtain ⟨p', cap', hv, _, _, h4⟩ := sliceR_open hr
      obtain ⟨rfl, hll, rfl⟩ : p = p' ∧ len = xs'.length ∧ cap = cap' := by simpa using hv
      obtain ⟨b, off, ecs, rfl, e2, e3, e4, e5⟩ := h4 i hlx
      have hgd : xs'.getD i 0 = xs'[i] := by simp [List.getD, hlx]
      rw [← hgd] at e5
      clear hr hm hM hK hv h4 hgd hlx hll
      generalize xs'.getD i 0 = X at *
      obtain ⟨rfl, _⟩ := e5
      have d0 := (e4 0 (by simp)).1
      have f0 := (e4 0 (by simp)).2
      simp only [List.getElem_cons_zero, Nat.mul_one, Nat.add_zero] at d0
      simp only [Nat.mul_one, Nat.add_zero] at f0
      have HS := Lib.hid e2
      obtain ⟨s, hs⟩ : ∃ s, sumL (L.take i) = s := ⟨_, rfl⟩
      rw [hs, hLi] at hst
      rw [hs] at hs0
      rw [hs]
      have HST := Lib.hid hst
      have hsb : s + (fun _ => 1) X ≤ sumL L := by rw [← hst]; exact hs1
      clear hst hs1 hLi hs e2 e3 e4 hl'
      try clear e5
      have hii : (i : Int) < (len : Int) := by omega
      have hcx : s + 1 ≤ sumL L := hsb
      clear hsb
      have HST2 := Lib.hid (show sumL (L.take (i + 1)) = s + 1 from HST.out)
      have D0 := Lib.hid d0
      go_wp2
      go_roundw
      case rel => exact ⟨i + 1, by omega, by go_num, by rw [HST2.out]; go_num, markEnd kinded_int HR.out HMm.out (by exact ((Kin.refl wr).setInt D0.out (by unfold I64; omega))), HM.out.trans (by exact ((Mut.refl S wr).set b _ _ HS.out)), HK.out.trans (by exact ((Kin.refl wr).setInt D0.out (by unfold I64; omega)))⟩
      case measure => simp [intOf]; omega
    · have hil : i = len := by omega
      have HD := Lib.hid (show k + (sumL (L.take i) : Nat) = k + (sumL L : Nat) from by rw [hil, ← HLL.out, List.take_length])
      clear hil
      go_wp2
      go_ret
      exact ⟨ret_int HD.out, HM.out, HK.out⟩

set_option maxHeartbeats 1000000 in
theorem markIntSS_kin (v : Value) (xs : List (List Int)) (S : Nat → Prop) (k : Int) (w0 w : World) (hx0 : rowsR S w0 [v] xs) (hK0 : Kin w0 w) (h0 : 0 ≤ k) (h1 : k + cntRows xs ≤ 1099511627776) :
    Calls Try.prog 121 #[v, .int .i64 k] w fun e w' => e = .returned (.int .i64 (k + cntRows xs)) ∧ Mut S w w' ∧ Kin w w' := by
  obtain ⟨p, cap, rfl, l1, l2, -⟩ := sliceR_open hx0
  obtain ⟨L, hL⟩ : ∃ L : List Nat, xs.map (cntInts) = L := ⟨_, rfl⟩
  have hcs : cntRows xs = sumL L := by rw [← hL]; rfl
  rw [hcs] at h1 ⊢
  have HX0 := Lib.hid (markEnd ints_kin hx0 hL hK0)
  obtain ⟨len, hlen⟩ : ∃ n, xs.length = n := ⟨_, rfl⟩
  have hLl : L.length = len := by rw [← hL, List.length_map, hlen]
  have HLL := Lib.hid hLl
  rw [hlen] at HX0 l1 ⊢
  unfold maxLen at l2
  clear hx0 hcs hL hlen hLl hK0
  go_enter Try.func121, Try.ntmps121
  go_wp2_with fail
  go_loopw [1, 5] (fun kk ii wr => ∃ (i : Nat), i ≤ len ∧ ii = .int .i64 i ∧ kk = .int .i64 (k + (sumL (L.take i) : Nat)) ∧ (∃ xs' : List (List Int), rowsR S wr [.slice p len cap] xs' ∧ xs'.map (cntInts) = L) ∧ Mut S w wr ∧ Kin w wr) (fun _ ii _ => len - (intOf ii).toNat)
  case atStart => exact ⟨0, Nat.zero_le _, rfl, by simp [sumL], HX0.out, Mut.refl _ _, Kin.refl _⟩
  case round =>
    obtain ⟨i, hi, rfl, rfl, ⟨xs', hr, hm⟩, hM, hK⟩ := hrel
    have HR := Lib.hid hr
    have HMm := Lib.hid hm
    have HM := Lib.hid hM
    have HK := Lib.hid hK
    have hs0 := sumTake_le L i
    by_cases hlt : i < len
    · have hl' : i < L.length := by rw [HLL.out]; exact hlt
      have hlx : i < xs'.length := by have h9 := congrArg List.length hm; rw [List.length_map, HLL.out] at h9; omega
      have hst := sumTake L i hl'
      have hs1 := sumTake_le L (i + 1)
      have hLi : L[i] = (cntInts) (xs'.getD i []) := by
        have h9 : (xs'.map (cntInts))[i]'(by simpa using hlx) = L[i] := by simp only [hm]
        rw [← h9, List.getElem_map]
        try simp [List.getD, hlx]
      obtain ⟨p', cap', hv, _, _, h4⟩ := sliceR_open hr
      obtain ⟨rfl, hll, rfl⟩ : p = p' ∧ len = xs'.length ∧ cap = cap' := by simpa using hv
      obtain ⟨b, off, ecs, rfl, e2, e3, e4, e5⟩ := h4 i hlx
      have hgd : xs'.getD i [] = xs'[i] := by simp [List.getD, hlx]
      rw [← hgd] at e5
      clear hr hm hM hK hv h4 hgd hlx hll
      generalize xs'.getD i [] = X at *
      have eq0 := e5
      obtain ⟨ec0, hec⟩ : ∃ c, ecs = [c] := by match ecs, e3 with | [c], _ => exact ⟨c, rfl⟩
      subst hec
      obtain ⟨ec0p, ec0k, rfl, -⟩ := sliceR_open eq0
      have d0 := (e4 0 (by simp)).1
      have f0 := (e4 0 (by simp)).2
      simp only [List.getElem_cons_zero, Nat.mul_one, Nat.add_zero] at d0
      simp only [Nat.mul_one, Nat.add_zero] at f0
      have HS := Lib.hid e2
      obtain ⟨s, hs⟩ : ∃ s, sumL (L.take i) = s := ⟨_, rfl⟩
      rw [hs, hLi] at hst
      rw [hs] at hs0
      rw [hs]
      have HST := Lib.hid hst
      have hsb : s + (cntInts) X ≤ sumL L := by rw [← hst]; exact hs1
      clear hst hs1 hLi hs e2 e3 e4 hl'
      try clear e5
      have hii : (i : Int) < (len : Int) := by omega
      have hcx : s + (cntInts X) ≤ sumL L := hsb
      clear hsb
      obtain ⟨n0, hn0⟩ : ∃ n, cntInts X = n := ⟨_, rfl⟩
      have HST2 := Lib.hid (show sumL (L.take (i + 1)) = s + (n0) from by rw [HST.out, ← hn0]; try rfl)
      rw [hn0] at hcx
      have HN0 := Lib.hid hn0
      clear hn0
      have HQ0 := Lib.hid eq0
      clear eq0
      have D0 := Lib.hid d0
      go_wp2_with fail
      refine (markIntS_kin _ X S _ wr _ HQ0.out (by exact (Kin.refl wr)) (by omega) (by rw [HN0.out]; omega)).mono ?_
      rintro e v1 ⟨rfl, Mv1, Kv1⟩
      rw [HN0.out]
      have KKv1 : Kin wr v1 := Kin.trans (by exact (Kin.refl wr)) Kv1
      have MMv1 : Mut S wr v1 := Mut.trans (by exact (Mut.refl S wr)) Mv1
      go_wp2
      go_roundw
      case rel => exact ⟨i + 1, by omega, by go_num, by rw [HST2.out]; go_num, markEnd ints_kin HR.out HMm.out (by exact KKv1), HM.out.trans (by exact MMv1), HK.out.trans (by exact KKv1)⟩
      case measure => simp [intOf]; omega
    · have hil : i = len := by omega
      have HD := Lib.hid (show k + (sumL (L.take i) : Nat) = k + (sumL L : Nat) from by rw [hil, ← HLL.out, List.take_length])
      clear hil
      go_wp2
      go_ret
      exact ⟨ret_int HD.out, HM.out, HK.out⟩

set_option maxHeartbeats 1000000 in
theorem markStepS_kin (v : Value) (xs : List (StepT)) (S : Nat → Prop) (k : Int) (w0 w : World) (hx0 : stepsR S w0 [v] xs) (hK0 : Kin w0 w) (h0 : 0 ≤ k) (h1 : k + cntSteps xs ≤ 1099511627776) :
    Calls Try.prog 165 #[v, .int .i64 k] w fun e w' => e = .returned (.int .i64 (k + cntSteps xs)) ∧ Mut S w w' ∧ Kin w w' := by
  obtain ⟨p, cap, rfl, l1, l2, -⟩ := sliceR_open hx0
  obtain ⟨L, hL⟩ : ∃ L : List Nat, xs.map (fun _ => 1 + 1) = L := ⟨_, rfl⟩
  have hcs : cntSteps xs = sumL L := by rw [← hL]; rfl
  rw [hcs] at h1 ⊢
  have HX0 := Lib.hid (markEnd step_kin hx0 hL hK0)
  obtain ⟨len, hlen⟩ : ∃ n, xs.length = n := ⟨_, rfl⟩
  have hLl : L.length = len := by rw [← hL, List.length_map, hlen]
  have HLL := Lib.hid hLl
  rw [hlen] at HX0 l1 ⊢
  unfold maxLen at l2
  clear hx0 hcs hL hlen hLl hK0
  go_enter Try.func165, Try.ntmps165
  go_wp2_with fail
  go_loopw [1, 5] (fun kk ii wr => ∃ (i : Nat), i ≤ len ∧ ii = .int .i64 i ∧ kk = .int .i64 (k + (sumL (L.take i) : Nat)) ∧ (∃ xs' : List (StepT), stepsR S wr [.slice p len cap] xs' ∧ xs'.map (fun _ => 1 + 1) = L) ∧ Mut S w wr ∧ Kin w wr) (fun _ ii _ => len - (intOf ii).toNat)
  case atStart => exact ⟨0, Nat.zero_le _, rfl, by simp [sumL], HX0.out, Mut.refl _ _, Kin.refl _⟩
  case round =>
    obtain ⟨i, hi, rfl, rfl, ⟨xs', hr, hm⟩, hM, hK⟩ := hrel
    have HR := Lib.hid hr
    have HMm := Lib.hid hm
    have HM := Lib.hid hM
    have HK := Lib.hid hK
    have hs0 := sumTake_le L i
    by_cases hlt : i < len
    · have hl' : i < L.length := by rw [HLL.out]; exact hlt
      have hlx : i < xs'.length := by have h9 := congrArg List.length hm; rw [List.length_map, HLL.out] at h9; omega
      have hst := sumTake L i hl'
      have hs1 := sumTake_le L (i + 1)
      have hLi : L[i] = (fun _ => 1 + 1) (xs'.getD i (0, 0)) := by
        have h9 : (xs'.map (fun _ => 1 + 1))[i]'(by simpa using hlx) = L[i] := by simp only [hm]
        rw [← h9, List.getElem_map]
        try simp [List.getD, hlx]
      obtain ⟨p', cap', hv, _, _, h4⟩ := sliceR_open hr
      obtain ⟨rfl, hll, rfl⟩ : p = p' ∧ len = xs'.length ∧ cap = cap' := by simpa using hv
      obtain ⟨b, off, ecs, rfl, e2, e3, e4, e5⟩ := h4 i hlx
      have hgd : xs'.getD i (0, 0) = xs'[i] := by simp [List.getD, hlx]
      rw [← hgd] at e5
      clear hr hm hM hK hv h4 hgd hlx hll
      generalize xs'.getD i (0, 0) = X at *
      obtain ⟨rfl, eq0, eq1⟩ := stepR_open e5
      have d0 := (e4 0 (by simp)).1
      have f0 := (e4 0 (by simp)).2
      have d1 := (e4 1 (by simp)).1
      have f1 := (e4 1 (by simp)).2
      simp only [List.getElem_cons_zero, List.getElem_cons_succ, Nat.add_zero] at d0 d1
      simp only [Nat.add_zero] at f0
      have HS := Lib.hid e2
      obtain ⟨s, hs⟩ : ∃ s, sumL (L.take i) = s := ⟨_, rfl⟩
      rw [hs, hLi] at hst
      rw [hs] at hs0
      rw [hs]
      have HST := Lib.hid hst
      have hsb : s + (fun _ => 1 + 1) X ≤ sumL L := by rw [← hst]; exact hs1
      clear hst hs1 hLi hs e2 e3 e4 hl'
      try clear e5
      have hii : (i : Int) < (len : Int) := by omega
      have hcx : s + 2 ≤ sumL L := hsb
      clear hsb
      have HST2 := Lib.hid (show sumL (L.take (i + 1)) = s + 2 from HST.out)
      have D0 := Lib.hid d0
      have D1 := Lib.hid d1
      clear eq0 eq1
      go_wp2
      go_roundw
      case rel => exact ⟨i + 1, by omega, by go_num, by rw [HST2.out]; go_num, markEnd step_kin HR.out HMm.out (by exact (((Kin.refl wr).setInt D0.out (by unfold I64; omega)).setInt D1.out (by unfold I64; omega))), HM.out.trans (by exact (((Mut.refl S wr).set b _ _ HS.out).set b _ _ HS.out)), HK.out.trans (by exact (((Kin.refl wr).setInt D0.out (by unfold I64; omega)).setInt D1.out (by unfold I64; omega)))⟩
      case measure => simp [intOf]; omega
    · have hil : i = len := by omega
      have HD := Lib.hid (show k + (sumL (L.take i) : Nat) = k + (sumL L : Nat) from by rw [hil, ← HLL.out, List.take_length])
      clear hil
      go_wp2
      go_ret
      exact ⟨ret_int HD.out, HM.out, HK.out⟩

set_option maxHeartbeats 1000000 in
theorem markLinkS_kin (v : Value) (xs : List (LinkT)) (S : Nat → Prop) (k : Int) (w0 w : World) (hx0 : linksR S w0 [v] xs) (hK0 : Kin w0 w) (h0 : 0 ≤ k) (h1 : k + cntLinks xs ≤ 1099511627776) :
    Calls Try.prog 118 #[v, .int .i64 k] w fun e w' => e = .returned (.int .i64 (k + cntLinks xs)) ∧ Mut S w w' ∧ Kin w w' := by
  obtain ⟨p, cap, rfl, l1, l2, -⟩ := sliceR_open hx0
  obtain ⟨L, hL⟩ : ∃ L : List Nat, xs.map (fun _ => 1 + (1 + (1 + 1))) = L := ⟨_, rfl⟩
  have hcs : cntLinks xs = sumL L := by rw [← hL]; rfl
  rw [hcs] at h1 ⊢
  have HX0 := Lib.hid (markEnd link_kin hx0 hL hK0)
  obtain ⟨len, hlen⟩ : ∃ n, xs.length = n := ⟨_, rfl⟩
  have hLl : L.length = len := by rw [← hL, List.length_map, hlen]
  have HLL := Lib.hid hLl
  rw [hlen] at HX0 l1 ⊢
  unfold maxLen at l2
  clear hx0 hcs hL hlen hLl hK0
  go_enter Try.func118, Try.ntmps118
  go_wp2_with fail
  go_loopw [1, 5] (fun kk ii wr => ∃ (i : Nat), i ≤ len ∧ ii = .int .i64 i ∧ kk = .int .i64 (k + (sumL (L.take i) : Nat)) ∧ (∃ xs' : List (LinkT), linksR S wr [.slice p len cap] xs' ∧ xs'.map (fun _ => 1 + (1 + (1 + 1))) = L) ∧ Mut S w wr ∧ Kin w wr) (fun _ ii _ => len - (intOf ii).toNat)
  case atStart => exact ⟨0, Nat.zero_le _, rfl, by simp [sumL], HX0.out, Mut.refl _ _, Kin.refl _⟩
  case round =>
    obtain ⟨i, hi, rfl, rfl, ⟨xs', hr, hm⟩, hM, hK⟩ := hrel
    have HR := Lib.hid hr
    have HMm := Lib.hid hm
    have HM := Lib.hid hM
    have HK := Lib.hid hK
    have hs0 := sumTake_le L i
    by_cases hlt : i < len
    · have hl' : i < L.length := by rw [HLL.out]; exact hlt
      have hlx : i < xs'.length := by have h9 := congrArg List.length hm; rw [List.length_map, HLL.out] at h9; omega
      have hst := sumTake L i hl'
      have hs1 := sumTake_le L (i + 1)
      have hLi : L[i] = (fun _ => 1 + (1 + (1 + 1))) (xs'.getD i (0, 0, false, 0)) := by
        have h9 : (xs'.map (fun _ => 1 + (1 + (1 + 1))))[i]'(by simpa using hlx) = L[i] := by simp only [hm]
        rw [← h9, List.getElem_map]
        try simp [List.getD, hlx]
      obtain ⟨p', cap', hv, _, _, h4⟩ := sliceR_open hr
      obtain ⟨rfl, hll, rfl⟩ : p = p' ∧ len = xs'.length ∧ cap = cap' := by simpa using hv
      obtain ⟨b, off, ecs, rfl, e2, e3, e4, e5⟩ := h4 i hlx
      have hgd : xs'.getD i (0, 0, false, 0) = xs'[i] := by simp [List.getD, hlx]
      rw [← hgd] at e5
      clear hr hm hM hK hv h4 hgd hlx hll
      generalize xs'.getD i (0, 0, false, 0) = X at *
      obtain ⟨rfl, eq0, eq1, eq3⟩ := linkR_open e5
      have d0 := (e4 0 (by simp)).1
      have f0 := (e4 0 (by simp)).2
      have d1 := (e4 1 (by simp)).1
      have f1 := (e4 1 (by simp)).2
      have d2 := (e4 2 (by simp)).1
      have f2 := (e4 2 (by simp)).2
      have d3 := (e4 3 (by simp)).1
      have f3 := (e4 3 (by simp)).2
      simp only [List.getElem_cons_zero, List.getElem_cons_succ, Nat.add_zero] at d0 d1 d2 d3
      simp only [Nat.add_zero] at f0
      have HS := Lib.hid e2
      obtain ⟨s, hs⟩ : ∃ s, sumL (L.take i) = s := ⟨_, rfl⟩
      rw [hs, hLi] at hst
      rw [hs] at hs0
      rw [hs]
      have HST := Lib.hid hst
      have hsb : s + (fun _ => 1 + (1 + (1 + 1))) X ≤ sumL L := by rw [← hst]; exact hs1
      clear hst hs1 hLi hs e2 e3 e4 hl'
      try clear e5
      have hii : (i : Int) < (len : Int) := by omega
      have hcx : s + 4 ≤ sumL L := hsb
      clear hsb
      have HST2 := Lib.hid (show sumL (L.take (i + 1)) = s + 4 from HST.out)
      have D0 := Lib.hid d0
      have D1 := Lib.hid d1
      have D2 := Lib.hid d2
      have D3 := Lib.hid d3
      clear eq0 eq1 eq3
      go_wp2
      go_roundw
      case rel => exact ⟨i + 1, by omega, by go_num, by rw [HST2.out]; go_num, markEnd link_kin HR.out HMm.out (by exact (((((Kin.refl wr).setInt D0.out (by unfold I64; omega)).setInt D1.out (by unfold I64; omega)).setBool D2.out).setInt D3.out (by unfold I64; omega))), HM.out.trans (by exact (((((Mut.refl S wr).set b _ _ HS.out).set b _ _ HS.out).set b _ _ HS.out).set b _ _ HS.out)), HK.out.trans (by exact (((((Kin.refl wr).setInt D0.out (by unfold I64; omega)).setInt D1.out (by unfold I64; omega)).setBool D2.out).setInt D3.out (by unfold I64; omega)))⟩
      case measure => simp [intOf]; omega
    · have hil : i = len := by omega
      have HD := Lib.hid (show k + (sumL (L.take i) : Nat) = k + (sumL L : Nat) from by rw [hil, ← HLL.out, List.take_length])
      clear hil
      go_wp2
      go_ret
      exact ⟨ret_int HD.out, HM.out, HK.out⟩

set_option maxHeartbeats 1000000 in
theorem markModeS_kin (v : Value) (xs : List (ModeT)) (S : Nat → Prop) (k : Int) (w0 w : World) (hx0 : modesR S w0 [v] xs) (hK0 : Kin w0 w) (h0 : 0 ≤ k) (h1 : k + cntModes xs ≤ 1099511627776) :
    Calls Try.prog 164 #[v, .int .i64 k] w fun e w' => e = .returned (.int .i64 (k + cntModes xs)) ∧ Mut S w w' ∧ Kin w w' := by
  obtain ⟨p, cap, rfl, l1, l2, -⟩ := sliceR_open hx0
  obtain ⟨L, hL⟩ : ∃ L : List Nat, xs.map (cntMode) = L := ⟨_, rfl⟩
  have hcs : cntModes xs = sumL L := by rw [← hL]; rfl
  rw [hcs] at h1 ⊢
  have HX0 := Lib.hid (markEnd mode_kin hx0 hL hK0)
  obtain ⟨len, hlen⟩ : ∃ n, xs.length = n := ⟨_, rfl⟩
  have hLl : L.length = len := by rw [← hL, List.length_map, hlen]
  have HLL := Lib.hid hLl
  rw [hlen] at HX0 l1 ⊢
  unfold maxLen at l2
  clear hx0 hcs hL hlen hLl hK0
  go_enter Try.func164, Try.ntmps164
  go_wp2_with fail
  go_loopw [1, 5] (fun kk ii wr => ∃ (i : Nat), i ≤ len ∧ ii = .int .i64 i ∧ kk = .int .i64 (k + (sumL (L.take i) : Nat)) ∧ (∃ xs' : List (ModeT), modesR S wr [.slice p len cap] xs' ∧ xs'.map (cntMode) = L) ∧ Mut S w wr ∧ Kin w wr) (fun _ ii _ => len - (intOf ii).toNat)
  case atStart => exact ⟨0, Nat.zero_le _, rfl, by simp [sumL], HX0.out, Mut.refl _ _, Kin.refl _⟩
  case round =>
    obtain ⟨i, hi, rfl, rfl, ⟨xs', hr, hm⟩, hM, hK⟩ := hrel
    have HR := Lib.hid hr
    have HMm := Lib.hid hm
    have HM := Lib.hid hM
    have HK := Lib.hid hK
    have hs0 := sumTake_le L i
    by_cases hlt : i < len
    · have hl' : i < L.length := by rw [HLL.out]; exact hlt
      have hlx : i < xs'.length := by have h9 := congrArg List.length hm; rw [List.length_map, HLL.out] at h9; omega
      have hst := sumTake L i hl'
      have hs1 := sumTake_le L (i + 1)
      have hLi : L[i] = (cntMode) (xs'.getD i (0, [], [])) := by
        have h9 : (xs'.map (cntMode))[i]'(by simpa using hlx) = L[i] := by simp only [hm]
        rw [← h9, List.getElem_map]
        try simp [List.getD, hlx]
      obtain ⟨p', cap', hv, _, _, h4⟩ := sliceR_open hr
      obtain ⟨rfl, hll, rfl⟩ : p = p' ∧ len = xs'.length ∧ cap = cap' := by simpa using hv
      obtain ⟨b, off, ecs, rfl, e2, e3, e4, e5⟩ := h4 i hlx
      have hgd : xs'.getD i (0, [], []) = xs'[i] := by simp [List.getD, hlx]
      rw [← hgd] at e5
      clear hr hm hM hK hv h4 hgd hlx hll
      generalize xs'.getD i (0, [], []) = X at *
      obtain ⟨ec1, ec2, rfl, eq0, eq1, eq2⟩ := modeR_open e5
      obtain ⟨ec1p, ec1k, rfl, -⟩ := sliceR_open eq1
      obtain ⟨ec2p, ec2k, rfl, -⟩ := sliceR_open eq2
      have d0 := (e4 0 (by simp)).1
      have f0 := (e4 0 (by simp)).2
      have d1 := (e4 1 (by simp)).1
      have f1 := (e4 1 (by simp)).2
      have d2 := (e4 2 (by simp)).1
      have f2 := (e4 2 (by simp)).2
      simp only [List.getElem_cons_zero, List.getElem_cons_succ, Nat.add_zero] at d0 d1 d2
      simp only [Nat.add_zero] at f0
      have HS := Lib.hid e2
      obtain ⟨s, hs⟩ : ∃ s, sumL (L.take i) = s := ⟨_, rfl⟩
      rw [hs, hLi] at hst
      rw [hs] at hs0
      rw [hs]
      have HST := Lib.hid hst
      have hsb : s + (cntMode) X ≤ sumL L := by rw [← hst]; exact hs1
      clear hst hs1 hLi hs e2 e3 e4 hl'
      try clear e5
      have hii : (i : Int) < (len : Int) := by omega
      have hcx : s + (1 + (cntInts X.2.1 + cntInts X.2.2)) ≤ sumL L := hsb
      clear hsb
      obtain ⟨n1, hn1⟩ : ∃ n, cntInts X.2.1 = n := ⟨_, rfl⟩
      obtain ⟨n2, hn2⟩ : ∃ n, cntInts X.2.2 = n := ⟨_, rfl⟩
      have HST2 := Lib.hid (show sumL (L.take (i + 1)) = s + (1 + (n1 + n2)) from by rw [HST.out, ← hn1, ← hn2]; try rfl)
      rw [hn1, hn2] at hcx
      have HN1 := Lib.hid hn1
      have HN2 := Lib.hid hn2
      clear hn1 hn2
      have HQ1 := Lib.hid eq1
      clear eq1
      have HQ2 := Lib.hid eq2
      clear eq2
      have D0 := Lib.hid d0
      have D1 := Lib.hid d1
      have D2 := Lib.hid d2
      clear eq0
      go_wp2_with fail
      refine (markIntS_kin _ X.2.1 S _ wr _ HQ1.out (by exact ((Kin.refl wr).setInt D0.out (by unfold I64; omega))) (by omega) (by rw [HN1.out]; omega)).mono ?_
      rintro e v1 ⟨rfl, Mv1, Kv1⟩
      rw [HN1.out]
      have KKv1 : Kin wr v1 := Kin.trans (by exact ((Kin.refl wr).setInt D0.out (by unfold I64; omega))) Kv1
      have MMv1 : Mut S wr v1 := Mut.trans (by exact ((Mut.refl S wr).set b _ _ HS.out)) Mv1
      have d2 := KKv1.slice D2.out
      go_wp2_with fail
      refine (markIntS_kin _ X.2.2 S _ wr _ HQ2.out (by exact KKv1) (by omega) (by rw [HN2.out]; omega)).mono ?_
      rintro e v2 ⟨rfl, Mv2, Kv2⟩
      rw [HN2.out]
      have KKv2 : Kin wr v2 := Kin.trans (by exact KKv1) Kv2
      have MMv2 : Mut S wr v2 := Mut.trans (by exact MMv1) Mv2
      go_wp2
      go_roundw
      case rel => exact ⟨i + 1, by omega, by go_num, by rw [HST2.out]; go_num, markEnd mode_kin HR.out HMm.out (by exact KKv2), HM.out.trans (by exact MMv2), HK.out.trans (by exact KKv2)⟩
      case measure => simp [intOf]; omega
    · have hil : i = len := by omega
      have HD := Lib.hid (show k + (sumL (L.take i) : Nat) = k + (sumL L : Nat) from by rw [hil, ← HLL.out, List.take_length])
      clear hil
      go_wp2
      go_ret
      exact ⟨ret_int HD.out, HM.out, HK.out⟩

set_option maxHeartbeats 1000000 in
theorem markActivityS_kin (v : Value) (xs : List (ActT)) (S : Nat → Prop) (k : Int) (w0 w : World) (hx0 : actsR S w0 [v] xs) (hK0 : Kin w0 w) (h0 : 0 ≤ k) (h1 : k + cntActs xs ≤ 1099511627776) :
    Calls Try.prog 117 #[v, .int .i64 k] w fun e w' => e = .returned (.int .i64 (k + cntActs xs)) ∧ Mut S w w' ∧ Kin w w' := by
  obtain ⟨p, cap, rfl, l1, l2, -⟩ := sliceR_open hx0
  obtain ⟨L, hL⟩ : ∃ L : List Nat, xs.map (cntAct) = L := ⟨_, rfl⟩
  have hcs : cntActs xs = sumL L := by rw [← hL]; rfl
  rw [hcs] at h1 ⊢
  have HX0 := Lib.hid (markEnd act_kin hx0 hL hK0)
  obtain ⟨len, hlen⟩ : ∃ n, xs.length = n := ⟨_, rfl⟩
  have hLl : L.length = len := by rw [← hL, List.length_map, hlen]
  have HLL := Lib.hid hLl
  rw [hlen] at HX0 l1 ⊢
  unfold maxLen at l2
  clear hx0 hcs hL hlen hLl hK0
  go_enter Try.func117, Try.ntmps117
  go_wp2_with fail
  go_loopw [1, 5] (fun kk ii wr => ∃ (i : Nat), i ≤ len ∧ ii = .int .i64 i ∧ kk = .int .i64 (k + (sumL (L.take i) : Nat)) ∧ (∃ xs' : List (ActT), actsR S wr [.slice p len cap] xs' ∧ xs'.map (cntAct) = L) ∧ Mut S w wr ∧ Kin w wr) (fun _ ii _ => len - (intOf ii).toNat)
  case atStart => exact ⟨0, Nat.zero_le _, rfl, by simp [sumL], HX0.out, Mut.refl _ _, Kin.refl _⟩
  case round =>
    obtain ⟨i, hi, rfl, rfl, ⟨xs', hr, hm⟩, hM, hK⟩ := hrel
    have HR := Lib.hid hr
    have HMm := Lib.hid hm
    have HM := Lib.hid hM
    have HK := Lib.hid hK
    have hs0 := sumTake_le L i
    by_cases hlt : i < len
    · have hl' : i < L.length := by rw [HLL.out]; exact hlt
      have hlx : i < xs'.length := by have h9 := congrArg List.length hm; rw [List.length_map, HLL.out] at h9; omega
      have hst := sumTake L i hl'
      have hs1 := sumTake_le L (i + 1)
      have hLi : L[i] = (cntAct) (xs'.getD i (ByteArray.empty, 0, [])) := by
        have h9 : (xs'.map (cntAct))[i]'(by simpa using hlx) = L[i] := by simp only [hm]
        rw [← h9, List.getElem_map]
        try simp [List.getD, hlx]
      obtain ⟨p', cap', hv, _, _, h4⟩ := sliceR_open hr
      obtain ⟨rfl, hll, rfl⟩ : p = p' ∧ len = xs'.length ∧ cap = cap' := by simpa using hv
      obtain ⟨b, off, ecs, rfl, e2, e3, e4, e5⟩ := h4 i hlx
      have hgd : xs'.getD i (ByteArray.empty, 0, []) = xs'[i] := by simp [List.getD, hlx]
      rw [← hgd] at e5
      clear hr hm hM hK hv h4 hgd hlx hll
      generalize xs'.getD i (ByteArray.empty, 0, []) = X at *
      obtain ⟨ec2, rfl, eq0, eq1, eq2⟩ := actR_open e5
      obtain ⟨ec2p, ec2k, rfl, -⟩ := sliceR_open eq2
      have d0 := (e4 0 (by simp)).1
      have f0 := (e4 0 (by simp)).2
      have d1 := (e4 1 (by simp)).1
      have f1 := (e4 1 (by simp)).2
      have d2 := (e4 2 (by simp)).1
      have f2 := (e4 2 (by simp)).2
      simp only [List.getElem_cons_zero, List.getElem_cons_succ, Nat.add_zero] at d0 d1 d2
      simp only [Nat.add_zero] at f0
      have HS := Lib.hid e2
      obtain ⟨s, hs⟩ : ∃ s, sumL (L.take i) = s := ⟨_, rfl⟩
      rw [hs, hLi] at hst
      rw [hs] at hs0
      rw [hs]
      have HST := Lib.hid hst
      have hsb : s + (cntAct) X ≤ sumL L := by rw [← hst]; exact hs1
      clear hst hs1 hLi hs e2 e3 e4 hl'
      try clear e5
      have hii : (i : Int) < (len : Int) := by omega
      have hcx : s + (1 + (1 + cntModes X.2.2)) ≤ sumL L := hsb
      clear hsb
      obtain ⟨n2, hn2⟩ : ∃ n, cntModes X.2.2 = n := ⟨_, rfl⟩
      have HST2 := Lib.hid (show sumL (L.take (i + 1)) = s + (1 + (1 + n2)) from by rw [HST.out, ← hn2]; try rfl)
      rw [hn2] at hcx
      have HN2 := Lib.hid hn2
      clear hn2
      have HQ2 := Lib.hid eq2
      clear eq2
      have D0 := Lib.hid d0
      have D1 := Lib.hid d1
      have D2 := Lib.hid d2
      clear eq0 eq1
      go_wp2_with fail
      refine (markText_any _ _ (by omega) (by omega)).mono ?_
      rintro e w1 ⟨tx, rfl, htx, g1⟩
      have HTX := Lib.hid htx; clear htx
      have f0 := (g1.rules.2 _ _ (lt_of_cell D0.out)).trans f0
      have f1 := (g1.rules.2 _ _ (lt_of_cell D1.out)).trans f1
      have d0 := g1.cell d0
      have d1 := g1.cell d1
      have d2 := g1.cell d2
      go_wp2_with fail
      refine (markModeS_kin _ X.2.2 S _ wr _ HQ2.out (by exact (((Kin.ofBel g1).setStr D0.out HTX.out).setInt D1.out (by unfold I64; omega))) (by omega) (by rw [HN2.out]; omega)).mono ?_
      rintro e v1 ⟨rfl, Mv1, Kv1⟩
      rw [HN2.out]
      have KKv1 : Kin wr v1 := Kin.trans (by exact (((Kin.ofBel g1).setStr D0.out HTX.out).setInt D1.out (by unfold I64; omega))) Kv1
      have MMv1 : Mut S wr v1 := Mut.trans (by exact (((Mut.ofBel g1).set b _ _ HS.out).set b _ _ HS.out)) Mv1
      go_wp2
      go_roundw
      case rel => exact ⟨i + 1, by omega, by go_num, by rw [HST2.out]; go_num, markEnd act_kin HR.out HMm.out (by exact KKv1), HM.out.trans (by exact MMv1), HK.out.trans (by exact KKv1)⟩
      case measure => simp [intOf]; omega
    · have hil : i = len := by omega
      have HD := Lib.hid (show k + (sumL (L.take i) : Nat) = k + (sumL L : Nat) from by rw [hil, ← HLL.out, List.take_length])
      clear hil
      go_wp2
      go_ret
      exact ⟨ret_int HD.out, HM.out, HK.out⟩

set_option maxHeartbeats 1000000 in
theorem markResourceS_kin (v : Value) (xs : List (ResT)) (S : Nat → Prop) (k : Int) (w0 w : World) (hx0 : ressR S w0 [v] xs) (hK0 : Kin w0 w) (h0 : 0 ≤ k) (h1 : k + cntRess xs ≤ 1099511627776) :
    Calls Try.prog 119 #[v, .int .i64 k] w fun e w' => e = .returned (.int .i64 (k + cntRess xs)) ∧ Mut S w w' ∧ Kin w w' := by
  obtain ⟨p, cap, rfl, l1, l2, -⟩ := sliceR_open hx0
  obtain ⟨L, hL⟩ : ∃ L : List Nat, xs.map (cntRes) = L := ⟨_, rfl⟩
  have hcs : cntRess xs = sumL L := by rw [← hL]; rfl
  rw [hcs] at h1 ⊢
  have HX0 := Lib.hid (markEnd res_kin hx0 hL hK0)
  obtain ⟨len, hlen⟩ : ∃ n, xs.length = n := ⟨_, rfl⟩
  have hLl : L.length = len := by rw [← hL, List.length_map, hlen]
  have HLL := Lib.hid hLl
  rw [hlen] at HX0 l1 ⊢
  unfold maxLen at l2
  clear hx0 hcs hL hlen hLl hK0
  go_enter Try.func119, Try.ntmps119
  go_wp2_with fail
  go_loopw [1, 5] (fun kk ii wr => ∃ (i : Nat), i ≤ len ∧ ii = .int .i64 i ∧ kk = .int .i64 (k + (sumL (L.take i) : Nat)) ∧ (∃ xs' : List (ResT), ressR S wr [.slice p len cap] xs' ∧ xs'.map (cntRes) = L) ∧ Mut S w wr ∧ Kin w wr) (fun _ ii _ => len - (intOf ii).toNat)
  case atStart => exact ⟨0, Nat.zero_le _, rfl, by simp [sumL], HX0.out, Mut.refl _ _, Kin.refl _⟩
  case round =>
    obtain ⟨i, hi, rfl, rfl, ⟨xs', hr, hm⟩, hM, hK⟩ := hrel
    have HR := Lib.hid hr
    have HMm := Lib.hid hm
    have HM := Lib.hid hM
    have HK := Lib.hid hK
    have hs0 := sumTake_le L i
    by_cases hlt : i < len
    · have hl' : i < L.length := by rw [HLL.out]; exact hlt
      have hlx : i < xs'.length := by have h9 := congrArg List.length hm; rw [List.length_map, HLL.out] at h9; omega
      have hst := sumTake L i hl'
      have hs1 := sumTake_le L (i + 1)
      have hLi : L[i] = (cntRes) (xs'.getD i ([], [])) := by
        have h9 : (xs'.map (cntRes))[i]'(by simpa using hlx) = L[i] := by simp only [hm]
        rw [← h9, List.getElem_map]
        try simp [List.getD, hlx]
      obtain ⟨p', cap', hv, _, _, h4⟩ := sliceR_open hr
      obtain ⟨rfl, hll, rfl⟩ : p = p' ∧ len = xs'.length ∧ cap = cap' := by simpa using hv
      obtain ⟨b, off, ecs, rfl, e2, e3, e4, e5⟩ := h4 i hlx
      have hgd : xs'.getD i ([], []) = xs'[i] := by simp [List.getD, hlx]
      rw [← hgd] at e5
      clear hr hm hM hK hv h4 hgd hlx hll
      generalize xs'.getD i ([], []) = X at *
      obtain ⟨ec0, ec1, rfl, eq0, eq1⟩ := resR_open e5
      obtain ⟨ec0p, ec0k, rfl, -⟩ := sliceR_open eq0
      obtain ⟨ec1p, ec1k, rfl, -⟩ := sliceR_open eq1
      have d0 := (e4 0 (by simp)).1
      have f0 := (e4 0 (by simp)).2
      have d1 := (e4 1 (by simp)).1
      have f1 := (e4 1 (by simp)).2
      simp only [List.getElem_cons_zero, List.getElem_cons_succ, Nat.add_zero] at d0 d1
      simp only [Nat.add_zero] at f0
      have HS := Lib.hid e2
      obtain ⟨s, hs⟩ : ∃ s, sumL (L.take i) = s := ⟨_, rfl⟩
      rw [hs, hLi] at hst
      rw [hs] at hs0
      rw [hs]
      have HST := Lib.hid hst
      have hsb : s + (cntRes) X ≤ sumL L := by rw [← hst]; exact hs1
      clear hst hs1 hLi hs e2 e3 e4 hl'
      try clear e5
      have hii : (i : Int) < (len : Int) := by omega
      have hcx : s + (cntSteps X.1 + cntRows X.2) ≤ sumL L := hsb
      clear hsb
      obtain ⟨n0, hn0⟩ : ∃ n, cntSteps X.1 = n := ⟨_, rfl⟩
      obtain ⟨n1, hn1⟩ : ∃ n, cntRows X.2 = n := ⟨_, rfl⟩
      have HST2 := Lib.hid (show sumL (L.take (i + 1)) = s + (n0 + n1) from by rw [HST.out, ← hn0, ← hn1]; try rfl)
      rw [hn0, hn1] at hcx
      have HN0 := Lib.hid hn0
      have HN1 := Lib.hid hn1
      clear hn0 hn1
      have HQ0 := Lib.hid eq0
      clear eq0
      have HQ1 := Lib.hid eq1
      clear eq1
      have D0 := Lib.hid d0
      have D1 := Lib.hid d1
      go_wp2_with fail
      refine (markStepS_kin _ X.1 S _ wr _ HQ0.out (by exact (Kin.refl wr)) (by omega) (by rw [HN0.out]; omega)).mono ?_
      rintro e v1 ⟨rfl, Mv1, Kv1⟩
      rw [HN0.out]
      have KKv1 : Kin wr v1 := Kin.trans (by exact (Kin.refl wr)) Kv1
      have MMv1 : Mut S wr v1 := Mut.trans (by exact (Mut.refl S wr)) Mv1
      have d1 := KKv1.slice D1.out
      go_wp2_with fail
      refine (markIntSS_kin _ X.2 S _ wr _ HQ1.out (by exact KKv1) (by omega) (by rw [HN1.out]; omega)).mono ?_
      rintro e v2 ⟨rfl, Mv2, Kv2⟩
      rw [HN1.out]
      have KKv2 : Kin wr v2 := Kin.trans (by exact KKv1) Kv2
      have MMv2 : Mut S wr v2 := Mut.trans (by exact MMv1) Mv2
      go_wp2
      go_roundw
      case rel => exact ⟨i + 1, by omega, by go_num, by rw [HST2.out]; go_num, markEnd res_kin HR.out HMm.out (by exact KKv2), HM.out.trans (by exact MMv2), HK.out.trans (by exact KKv2)⟩
      case measure => simp [intOf]; omega
    · have hil : i = len := by omega
      have HD := Lib.hid (show k + (sumL (L.take i) : Nat) = k + (sumL L : Nat) from by rw [hil, ← HLL.out, List.take_length])
      clear hil
      go_wp2
      go_ret
      exact ⟨ret_int HD.out, HM.out, HK.out⟩

set_option maxHeartbeats 1000000 in
theorem markSchedule_kin (v : Value) (x : SchT) (S : Nat → Prop) (k : Int) (w : World) (U : Int) (hU : U ≤ 1099511627776) (hx : aggR schR S w v x) (h0 : 0 ≤ k) (h1 : k + cntSch x ≤ U) :
    Calls Try.prog 58 #[v, .int .i64 k] w fun e w' => ∃ k', e = .returned (.int .i64 k') ∧ 0 ≤ k' ∧ k' ≤ U ∧ Mut S w w' := by
  obtain ⟨cs, rfl, hx⟩ := hx
  obtain ⟨c0, c1, rfl, q0, q1⟩ := schR_open hx
  have H0 := Lib.hid q0
  have H1 := Lib.hid q1
  obtain ⟨c0p, c0k, rfl, _⟩ := sliceR_open q0
  obtain ⟨c1p, c1k, rfl, _⟩ := sliceR_open q1
  clear hx q0 q1
  have hc : k + ((cntInts x.1 + cntInts x.2 : Nat) : Int) ≤ U := h1
  clear h1
  obtain ⟨n0, hn0⟩ : ∃ n, cntInts x.1 = n := ⟨_, rfl⟩
  obtain ⟨n1, hn1⟩ : ∃ n, cntInts x.2 = n := ⟨_, rfl⟩
  rw [hn0, hn1] at hc
  have HN0 := Lib.hid hn0; clear hn0
  have HN1 := Lib.hid hn1; clear hn1
  show Calls Try.prog 58 #[.agg #[.slice c0p (x.1).length c0k, .slice c1p (x.2).length c1k], .int .i64 k] w _
  go_enter Try.func58, Try.ntmps58
  go_wp2_with fail
  refine (markIntS_kin _ x.1 S _ w _ H0.out (by exact (Kin.ofBel (by (repeat (first | assumption | exact Bel.refl _ | apply Bel.drewN | apply Bel.drew | apply Bel.alloc | refine Bel.trans ?_ (by assumption)))))) (by omega) (by rw [HN0.out]; omega)).mono ?_
  rintro e v1 ⟨rfl, Mv1, Kv1⟩
  rw [HN0.out]
  have KKv1 : Kin w v1 := Kin.trans (by exact (Kin.ofBel (by (repeat (first | assumption | exact Bel.refl _ | apply Bel.drewN | apply Bel.drew | apply Bel.alloc | refine Bel.trans ?_ (by assumption)))))) Kv1
  have MMv1 : Mut S w v1 := Mut.trans (by exact (Mut.ofBel (by (repeat (first | assumption | exact Bel.refl _ | apply Bel.drewN | apply Bel.drew | apply Bel.alloc | refine Bel.trans ?_ (by assumption)))))) Mv1
  have b1 := Kv1.slice (b := w.heap.size) (o := 1) (p := c1p) (n := (x.2).length) (c := c1k) (by simp [go_sem])
  go_wp2_with fail
  refine (markIntS_kin _ x.2 S _ w _ H1.out (by exact KKv1) (by omega) (by rw [HN1.out]; omega)).mono ?_
  rintro e v2 ⟨rfl, Mv2, Kv2⟩
  rw [HN1.out]
  have KKv2 : Kin w v2 := Kin.trans (by exact KKv1) Kv2
  have MMv2 : Mut S w v2 := Mut.trans (by exact MMv1) Mv2
  go_wp2
  go_ret
  exact ⟨_, rfl, by omega, by omega, MMv2⟩

set_option maxHeartbeats 1000000 in
theorem markDomain_kin (v : Value) (x : DomT) (S : Nat → Prop) (k : Int) (w : World) (U : Int) (hU : U ≤ 1099511627776) (hx : aggR domR S w v x) (h0 : 0 ≤ k) (h1 : k + cntDom x ≤ U) :
    Calls Try.prog 51 #[v, .int .i64 k] w fun e w' => ∃ k', e = .returned (.int .i64 k') ∧ 0 ≤ k' ∧ k' ≤ U ∧ Mut S w w' := by
  obtain ⟨cs, rfl, hx⟩ := hx
  obtain ⟨c0, c1, c2, rfl, q0, q1, q2⟩ := domR_open hx
  have H0 := Lib.hid q0
  have H1 := Lib.hid q1
  have H2 := Lib.hid q2
  obtain ⟨c0p, c0k, rfl, _⟩ := sliceR_open q0
  obtain ⟨c1p, c1k, rfl, _⟩ := sliceR_open q1
  obtain ⟨c2p, c2k, rfl, _⟩ := sliceR_open q2
  clear hx q0 q1 q2
  have hc : k + ((cntInts x.1 + (cntInts x.2.1 + cntRows x.2.2) : Nat) : Int) ≤ U := h1
  clear h1
  obtain ⟨n0, hn0⟩ : ∃ n, cntInts x.1 = n := ⟨_, rfl⟩
  obtain ⟨n1, hn1⟩ : ∃ n, cntInts x.2.1 = n := ⟨_, rfl⟩
  obtain ⟨n2, hn2⟩ : ∃ n, cntRows x.2.2 = n := ⟨_, rfl⟩
  rw [hn0, hn1, hn2] at hc
  have HN0 := Lib.hid hn0; clear hn0
  have HN1 := Lib.hid hn1; clear hn1
  have HN2 := Lib.hid hn2; clear hn2
  show Calls Try.prog 51 #[.agg #[.slice c0p (x.1).length c0k, .slice c1p (x.2.1).length c1k, .slice c2p (x.2.2).length c2k], .int .i64 k] w _
  go_enter Try.func51, Try.ntmps51
  go_wp2_with fail
  refine (markIntS_kin _ x.1 S _ w _ H0.out (by exact (Kin.ofBel (by (repeat (first | assumption | exact Bel.refl _ | apply Bel.drewN | apply Bel.drew | apply Bel.alloc | refine Bel.trans ?_ (by assumption)))))) (by omega) (by rw [HN0.out]; omega)).mono ?_
  rintro e v1 ⟨rfl, Mv1, Kv1⟩
  rw [HN0.out]
  have KKv1 : Kin w v1 := Kin.trans (by exact (Kin.ofBel (by (repeat (first | assumption | exact Bel.refl _ | apply Bel.drewN | apply Bel.drew | apply Bel.alloc | refine Bel.trans ?_ (by assumption)))))) Kv1
  have MMv1 : Mut S w v1 := Mut.trans (by exact (Mut.ofBel (by (repeat (first | assumption | exact Bel.refl _ | apply Bel.drewN | apply Bel.drew | apply Bel.alloc | refine Bel.trans ?_ (by assumption)))))) Mv1
  have b1 := Kv1.slice (b := w.heap.size) (o := 1) (p := c1p) (n := (x.2.1).length) (c := c1k) (by simp [go_sem])
  have b2 := Kv1.slice (b := w.heap.size) (o := 2) (p := c2p) (n := (x.2.2).length) (c := c2k) (by simp [go_sem])
  go_wp2_with fail
  refine (markIntS_kin _ x.2.1 S _ w _ H1.out (by exact KKv1) (by omega) (by rw [HN1.out]; omega)).mono ?_
  rintro e v2 ⟨rfl, Mv2, Kv2⟩
  rw [HN1.out]
  have KKv2 : Kin w v2 := Kin.trans (by exact KKv1) Kv2
  have MMv2 : Mut S w v2 := Mut.trans (by exact MMv1) Mv2
  have b2 := Kv2.slice (b := w.heap.size) (o := 2) (p := c2p) (n := (x.2.2).length) (c := c2k) b2
  go_wp2_with fail
  refine (markIntSS_kin _ x.2.2 S _ w _ H2.out (by exact KKv2) (by omega) (by rw [HN2.out]; omega)).mono ?_
  rintro e v3 ⟨rfl, Mv3, Kv3⟩
  rw [HN2.out]
  have KKv3 : Kin w v3 := Kin.trans (by exact KKv2) Kv3
  have MMv3 : Mut S w v3 := Mut.trans (by exact MMv2) Mv3
  go_wp2
  go_ret
  exact ⟨_, rfl, by omega, by omega, MMv3⟩

set_option maxHeartbeats 1000000 in
theorem markProject_kin (v : Value) (x : ProjT) (S : Nat → Prop) (k : Int) (w : World) (U : Int) (hU : U ≤ 1099511627776) (hx : aggR projR S w v x) (h0 : 0 ≤ k) (h1 : k + cntProj x ≤ U) :
    Calls Try.prog 50 #[v, .int .i64 k] w fun e w' => ∃ k', e = .returned (.int .i64 k') ∧ 0 ≤ k' ∧ k' ≤ U ∧ Mut S w w' := by
  obtain ⟨cs, rfl, hx⟩ := hx
  obtain ⟨c1, c2, c3, c4, rfl, q0, q1, q2, q3, q4⟩ := projR_open hx
  have H1 := Lib.hid q1
  have H2 := Lib.hid q2
  have H3 := Lib.hid q3
  have H4 := Lib.hid q4
  obtain ⟨c1p, c1k, rfl, _⟩ := sliceR_open q1
  obtain ⟨c2p, c2k, rfl, _⟩ := sliceR_open q2
  obtain ⟨c3p, c3k, rfl, _⟩ := sliceR_open q3
  obtain ⟨c4p, c4k, rfl, _⟩ := sliceR_open q4
  clear hx q0 q1 q2 q3 q4
  have hc : k + ((1 + (cntActs x.2.1 + (cntLinks x.2.2.1 + (cntRess x.2.2.2.1 + cntInts x.2.2.2.2))) : Nat) : Int) ≤ U := h1
  clear h1
  obtain ⟨n1, hn1⟩ : ∃ n, cntActs x.2.1 = n := ⟨_, rfl⟩
  obtain ⟨n2, hn2⟩ : ∃ n, cntLinks x.2.2.1 = n := ⟨_, rfl⟩
  obtain ⟨n3, hn3⟩ : ∃ n, cntRess x.2.2.2.1 = n := ⟨_, rfl⟩
  obtain ⟨n4, hn4⟩ : ∃ n, cntInts x.2.2.2.2 = n := ⟨_, rfl⟩
  rw [hn1, hn2, hn3, hn4] at hc
  have HN1 := Lib.hid hn1; clear hn1
  have HN2 := Lib.hid hn2; clear hn2
  have HN3 := Lib.hid hn3; clear hn3
  have HN4 := Lib.hid hn4; clear hn4
  show Calls Try.prog 50 #[.agg #[.int .i64 x.1, .slice c1p (x.2.1).length c1k, .slice c2p (x.2.2.1).length c2k, .slice c3p (x.2.2.2.1).length c3k, .slice c4p (x.2.2.2.2).length c4k], .int .i64 k] w _
  go_enter Try.func50, Try.ntmps50
  go_wp2_with fail
  refine (markActivityS_kin _ x.2.1 S _ w _ H1.out (by exact (Kin.ofBel (by (repeat (first | assumption | exact Bel.refl _ | apply Bel.drewN | apply Bel.drew | apply Bel.alloc | refine Bel.trans ?_ (by assumption)))))) (by omega) (by rw [HN1.out]; omega)).mono ?_
  rintro e v1 ⟨rfl, Mv1, Kv1⟩
  rw [HN1.out]
  have KKv1 : Kin w v1 := Kin.trans (by exact (Kin.ofBel (by (repeat (first | assumption | exact Bel.refl _ | apply Bel.drewN | apply Bel.drew | apply Bel.alloc | refine Bel.trans ?_ (by assumption)))))) Kv1
  have MMv1 : Mut S w v1 := Mut.trans (by exact (Mut.ofBel (by (repeat (first | assumption | exact Bel.refl _ | apply Bel.drewN | apply Bel.drew | apply Bel.alloc | refine Bel.trans ?_ (by assumption)))))) Mv1
  have b2 := Kv1.slice (b := w.heap.size) (o := 2) (p := c2p) (n := (x.2.2.1).length) (c := c2k) (by simp [go_sem])
  have b3 := Kv1.slice (b := w.heap.size) (o := 3) (p := c3p) (n := (x.2.2.2.1).length) (c := c3k) (by simp [go_sem])
  have b4 := Kv1.slice (b := w.heap.size) (o := 4) (p := c4p) (n := (x.2.2.2.2).length) (c := c4k) (by simp [go_sem])
  go_wp2_with fail
  refine (markLinkS_kin _ x.2.2.1 S _ w _ H2.out (by exact KKv1) (by omega) (by rw [HN2.out]; omega)).mono ?_
  rintro e v2 ⟨rfl, Mv2, Kv2⟩
  rw [HN2.out]
  have KKv2 : Kin w v2 := Kin.trans (by exact KKv1) Kv2
  have MMv2 : Mut S w v2 := Mut.trans (by exact MMv1) Mv2
  have b3 := Kv2.slice (b := w.heap.size) (o := 3) (p := c3p) (n := (x.2.2.2.1).length) (c := c3k) b3
  have b4 := Kv2.slice (b := w.heap.size) (o := 4) (p := c4p) (n := (x.2.2.2.2).length) (c := c4k) b4
  go_wp2_with fail
  refine (markResourceS_kin _ x.2.2.2.1 S _ w _ H3.out (by exact KKv2) (by omega) (by rw [HN3.out]; omega)).mono ?_
  rintro e v3 ⟨rfl, Mv3, Kv3⟩
  rw [HN3.out]
  have KKv3 : Kin w v3 := Kin.trans (by exact KKv2) Kv3
  have MMv3 : Mut S w v3 := Mut.trans (by exact MMv2) Mv3
  have b4 := Kv3.slice (b := w.heap.size) (o := 4) (p := c4p) (n := (x.2.2.2.2).length) (c := c4k) b4
  go_wp2_with fail
  refine (markIntS_kin _ x.2.2.2.2 S _ w _ H4.out (by exact KKv3) (by omega) (by rw [HN4.out]; omega)).mono ?_
  rintro e v4 ⟨rfl, Mv4, Kv4⟩
  rw [HN4.out]
  have KKv4 : Kin w v4 := Kin.trans (by exact KKv3) Kv4
  have MMv4 : Mut S w v4 := Mut.trans (by exact MMv3) Mv4
  go_wp2
  go_ret
  exact ⟨_, rfl, by omega, by omega, MMv4⟩

end Go.Proofs.Ytiaamddhocdhaaa
