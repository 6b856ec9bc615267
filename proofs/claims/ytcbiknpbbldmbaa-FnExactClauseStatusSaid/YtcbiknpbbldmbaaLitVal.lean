/- Contracts of LiteralValue. -/
import Derived.Test.YtcbiknpbbldmbaaDomEmpty
import Derived.Test.YtcbiknpbbldmbaaHolds
import Derived.Test.YtcbiknpbbldmbaaSeq
namespace Go.Proofs.Ytcbiknpbbldmbaa
open Go.ChangeShapes Go.WideShapes Go.ChangeAt Go.RowKit
set_option linter.unusedVariables false

def knownI (t f : Bool) : Int := if t then 1 else if f then -1 else 0
def thereB (d : DomT) (a : Int) : Bool := inB a 0 ((d.1.length : Int) - 1) && (inB a 0 ((d.2.1.length : Int) - 1) && inB a 0 ((d.2.2.length : Int) - 1))
def valB (k v s u : Int) (m : List Int) : Int :=
  if k = 1 then knownI (decide (v ≤ s)) (decide (u < v)) else if k = 2 then knownI (decide (u ≤ v)) (decide (v < s))
  else if k = 3 then knownI (decide (m = [v])) (!hasB v m) else if k = 4 then - knownI (decide (m = [v])) (!hasB v m) else 1
def litValue (d : DomT) (l : LitT) : Int :=
  if thereB d l.2.1 then valB l.1 l.2.2 (d.1.getD l.2.1.toNat 0) (d.2.1.getD l.2.1.toNat 0) (d.2.2.getD l.2.1.toNat []) else 1
theorem known_neg (v : Int) (m : List Int) : knownI (!hasB v m) (decide (m = [v])) = - knownI (decide (m = [v])) (!hasB v m) := by
  by_cases h : m = [v]
  · subst h; simp [knownI, hasB]
  · cases hh : hasB v m <;> simp [knownI, h]
theorem just_spec (m : List Int) (v : Int) : decide (m = [v]) = (decide (m.length = 1) && decide (m.getD 0 0 = v)) := by
  rw [Bool.eq_iff_iff]
  simp only [decide_eq_true_eq, Bool.and_eq_true]
  constructor
  · rintro rfl; simp
  · rintro ⟨h1, h2⟩
    match m, h1 with
    | [x], _ => simp at h2; rw [h2]
theorem knownI_bd (t f : Bool) : -1 ≤ knownI t f ∧ knownI t f ≤ 1 := by cases t <;> cases f <;> simp [knownI]
theorem one_rep {W : World} {n : Nat} {v : Int} (h : W.cell? ⟨n, 0, none⟩ = some (.int .i64 v)) (hf : W.frozen? ⟨n, 0, none⟩ = false) (hv : I64 v) : intsR (fun b => b = n) W [.slice (some ⟨n, 0, none⟩) 1 1] [v] := by
  refine ⟨_, _, rfl, Nat.le_refl _, by unfold maxLen; simp, fun i hi => ?_⟩
  simp only [List.length_singleton] at hi
  obtain rfl : i = 0 := by omega
  refine ⟨n, 0, [.int .i64 v], rfl, rfl, rfl, fun k hk => ?_, rfl, hv⟩
  simp only [List.length_singleton] at hk
  obtain rfl : k = 0 := by omega
  exact ⟨h, hf⟩

theorem valueOf_any (t u : Bool) (w : World) : Calls Try.prog 92 #[.bool t, .bool u] w fun e w' => e = .returned (.int .i64 (knownI t u)) ∧ w = w' := by
  cases t
  · cases u
    · go_enter Try.func92, Try.ntmps92
      go_wp2
      go_ret
      exact ⟨rfl, rfl⟩
    · go_enter Try.func92, Try.ntmps92
      go_wp2
      go_ret
      exact ⟨rfl, rfl⟩
  · go_enter Try.func92, Try.ntmps92
    go_wp2
    go_ret
    exact ⟨rfl, rfl⟩

theorem l12Known_any (t u : Bool) (w : World) : Calls Try.prog 90 #[.bool t, .bool u] w fun e w' => e = .returned (.int .i64 (knownI t u)) ∧ w = w' := by
  cases t
  · cases u
    · go_enter Try.func90, Try.ntmps90
      go_wp2
      go_ret
      exact ⟨rfl, rfl⟩
    · go_enter Try.func90, Try.ntmps90
      go_wp2
      go_ret
      exact ⟨rfl, rfl⟩
  · go_enter Try.func90, Try.ntmps90
    go_wp2
    go_ret
    exact ⟨rfl, rfl⟩

theorem l12There_any (x0 : DomT) (p00 p01 p02 : Option Addr) (cap00 cap01 cap02 : Nat) (a : Int) (w : World) (l0 : x0.1.length ≤ cap00) (l0' : cap00 ≤ maxLen) (l1 : x0.2.1.length ≤ cap01) (l1' : cap01 ≤ maxLen) (l2 : x0.2.2.length ≤ cap02) (l2' : cap02 ≤ maxLen) :
    Calls Try.prog 89 #[.agg #[.slice p00 x0.1.length cap00, .slice p01 x0.2.1.length cap01, .slice p02 x0.2.2.length cap02], .int .i64 a] w fun e w' => e = .returned (.bool (thereB x0 a)) ∧ Bel w w' := by
  unfold maxLen at l0' l1' l2'
  obtain ⟨ls, us, ms⟩ := x0
  simp only at l0 l1 l2
  cases h1 : inB a 0 ((ls.length : Int) - 1)
  · have HF := Lib.hid (show thereB (ls, us, ms) a = false from by simp [thereB, h1])
    go_enter Try.func89, Try.ntmps89
    go_wp2_with (go_at_call 61; refine (l01In_any _ _ _ _).mono ?_; rintro e w' ⟨rfl, rfl⟩)
    go_ret
    exact ⟨ret_bool HF.out.symm, by (repeat (first | exact Bel.refl _ | apply Bel.drewN | apply Bel.drew | apply Bel.alloc | refine Bel.trans ?_ (by assumption)))⟩
  cases h2 : inB a 0 ((us.length : Int) - 1)
  · have HF := Lib.hid (show thereB (ls, us, ms) a = false from by simp [thereB, h2])
    go_enter Try.func89, Try.ntmps89
    go_wp2_with (go_at_call 61; refine (l01In_any _ _ _ _).mono ?_; rintro e w' ⟨rfl, rfl⟩)
    go_ret
    exact ⟨ret_bool HF.out.symm, by (repeat (first | exact Bel.refl _ | apply Bel.drewN | apply Bel.drew | apply Bel.alloc | refine Bel.trans ?_ (by assumption)))⟩
  have HF := Lib.hid (show thereB (ls, us, ms) a = inB a 0 ((ms.length : Int) - 1) from by simp [thereB, h1, h2])
  go_enter Try.func89, Try.ntmps89
  go_wp2_with (go_at_call 61; refine (l01In_any _ _ _ _).mono ?_; rintro e w' ⟨rfl, rfl⟩)
  go_ret
  exact ⟨ret_bool HF.out.symm, by (repeat (first | exact Bel.refl _ | apply Bel.drewN | apply Bel.drew | apply Bel.alloc | refine Bel.trans ?_ (by assumption)))⟩

theorem domHas_any (x0 : DomT) (p00 p01 p02 : Option Addr) (cap00 cap01 cap02 : Nat) (a : Int) (w : World) (l0 : x0.1.length ≤ cap00) (l0' : cap00 ≤ maxLen) (l1 : x0.2.1.length ≤ cap01) (l1' : cap01 ≤ maxLen) (l2 : x0.2.2.length ≤ cap02) (l2' : cap02 ≤ maxLen) :
    Calls Try.prog 91 #[.agg #[.slice p00 x0.1.length cap00, .slice p01 x0.2.1.length cap01, .slice p02 x0.2.2.length cap02], .int .i64 a] w fun e w' => e = .returned (.bool (thereB x0 a)) ∧ Bel w w' := by
  unfold maxLen at l0' l1' l2'
  obtain ⟨ls, us, ms⟩ := x0
  simp only at l0 l1 l2
  by_cases h0 : 0 ≤ a
  rotate_left
  · have HF := Lib.hid (show thereB (ls, us, ms) a = false from by simp [thereB, inB]; omega)
    go_enter Try.func91, Try.ntmps91
    go_wp2
    go_ret
    exact ⟨ret_bool HF.out.symm, by (repeat (first | exact Bel.refl _ | apply Bel.drewN | apply Bel.drew | apply Bel.alloc | refine Bel.trans ?_ (by assumption)))⟩
  by_cases h1 : a < (ls.length : Int)
  rotate_left
  · have HF := Lib.hid (show thereB (ls, us, ms) a = false from by simp [thereB, inB]; omega)
    go_enter Try.func91, Try.ntmps91
    go_wp2
    go_ret
    exact ⟨ret_bool HF.out.symm, by (repeat (first | exact Bel.refl _ | apply Bel.drewN | apply Bel.drew | apply Bel.alloc | refine Bel.trans ?_ (by assumption)))⟩
  by_cases h2 : a < (us.length : Int)
  rotate_left
  · have HF := Lib.hid (show thereB (ls, us, ms) a = false from by simp [thereB, inB]; omega)
    go_enter Try.func91, Try.ntmps91
    go_wp2
    go_ret
    exact ⟨ret_bool HF.out.symm, by (repeat (first | exact Bel.refl _ | apply Bel.drewN | apply Bel.drew | apply Bel.alloc | refine Bel.trans ?_ (by assumption)))⟩
  by_cases h3 : a < (ms.length : Int)
  rotate_left
  · have HF := Lib.hid (show thereB (ls, us, ms) a = false from by simp [thereB, inB]; omega)
    go_enter Try.func91, Try.ntmps91
    go_wp2
    go_ret
    exact ⟨ret_bool HF.out.symm, by (repeat (first | exact Bel.refl _ | apply Bel.drewN | apply Bel.drew | apply Bel.alloc | refine Bel.trans ?_ (by assumption)))⟩
  have HF := Lib.hid (show thereB (ls, us, ms) a = true from by simp [thereB, inB]; omega)
  go_enter Try.func91, Try.ntmps91
  go_wp2
  go_ret
  exact ⟨ret_bool HF.out.symm, by (repeat (first | exact Bel.refl _ | apply Bel.drewN | apply Bel.drew | apply Bel.alloc | refine Bel.trans ?_ (by assumption)))⟩

set_option maxHeartbeats 1600000 in
theorem iLiteralValue_any (v0 : Value) (x0 : DomT) (S0 : Nat → Prop) (x1 : LitT) (w : World) (h0 : aggR domR S0 w v0 x0) (_hS0 : ∀ b, S0 b → b < w.heap.size) (_hn0 : bulkDomain x0 ≤ 1048576) (hi1 : I64 x1.2.2) :
    Calls Try.prog 49 #[v0, .agg #[.int .i64 x1.1, .int .i64 x1.2.1, .int .i64 x1.2.2]] w fun e w' => e = .returned (.int .i64 (litValue x0 x1)) ∧ Bel w w' := by
  obtain ⟨cs0, rfl, h0⟩ := h0
  obtain ⟨c0, c1, c2, rfl, q00, q01, q02⟩ := domR_open h0
  obtain ⟨ls, us, ms⟩ := x0
  simp only at q00 q01 q02
  have A00 := Lib.hid (fun i hi => intsR_at' q00 (i := i) hi)
  have A01 := Lib.hid (fun i hi => intsR_at' q01 (i := i) hi)
  obtain ⟨p00, cap00, rfl, l00, l00', _⟩ := sliceR_open q00
  obtain ⟨p01, cap01, rfl, l01, l01', _⟩ := sliceR_open q01
  have Q02 := Lib.hid q02
  obtain ⟨p02, cap02, rfl, l02, l02', _⟩ := sliceR_open q02
  unfold maxLen at l00' l01' l02'
  clear h0 q00 q01 q02
  obtain ⟨ki, ac, va⟩ := x1
  have HI := Lib.hid hi1
  have AM := Lib.hid (fun i hi => rowsR_at Q02.out (i := i) hi)
  have HSS := Lib.hid _hS0
  clear _hS0 _hn0 Q02 hi1
  show Calls Try.prog 49 #[.agg #[.slice p00 ls.length cap00, .slice p01 us.length cap01, .slice p02 ms.length cap02], .agg #[.int .i64 ki, .int .i64 ac, .int .i64 va]] w _
  cases ht : thereB (ls, us, ms) ac
  · have HF := Lib.hid (show litValue (ls, us, ms) (ki, ac, va) = 1 from by simp [litValue, ht])
    have HT := Lib.hid ht; clear ht
    go_enter Try.func49, Try.ntmps49
    go_wp2_with fail
    refine (domHas_any (ls, us, ms) _ _ _ _ _ _ _ _ l00 l00' l01 l01' l02 l02').mono ?_
    rintro e w1 ⟨rfl, g1⟩
    rw [HT.out]
    go_wp2
    go_ret
    exact ⟨ret_int HF.out.symm, by (repeat (first | exact Bel.refl _ | apply Bel.drewN | apply Bel.drew | apply Bel.alloc | refine Bel.trans ?_ (by assumption)))⟩
  have HF := Lib.hid (show litValue (ls, us, ms) (ki, ac, va) = valB ki va (ls.getD ac.toNat 0) (us.getD ac.toNat 0) (ms.getD ac.toNat []) from by simp [litValue, ht])
  have HT := Lib.hid ht
  simp only [thereB, Bool.and_eq_true] at ht
  obtain ⟨t0, t1, t2⟩ := ht
  obtain ⟨k, rfl, hk0⟩ := inB_idx t0
  have hk1 : k < us.length := by simp only [inB, Bool.and_eq_true, decide_eq_true_eq] at t1; omega
  have hk2 : k < ms.length := by simp only [inB, Bool.and_eq_true, decide_eq_true_eq] at t2; omega
  clear t0 t1 t2
  rw [show ((k : Nat) : Int).toNat = k from rfl] at HF
  obtain ⟨bl, ol, el, dl⟩ := A00.out k hk0
  obtain ⟨bu, ou, eu, du⟩ := A01.out k hk1
  obtain ⟨bm, om, rp, rc, em, dm, rl, rl', hrow⟩ := AM.out k hk2
  obtain rfl : p00 = some ⟨bl, ol, none⟩ := el
  obtain rfl : p01 = some ⟨bu, ou, none⟩ := eu
  obtain rfl : p02 = some ⟨bm, om, none⟩ := em
  have hrow0 := Lib.hid hrow
  have R0 := Lib.hid (fun i hi => intsR_at' hrow (i := i) hi)
  clear hrow
  have i0 : (k : Int) < (ls.length : Int) := by omega
  have i1 : (k : Int) < (us.length : Int) := by omega
  have i2 : (k : Int) < (ms.length : Int) := by omega
  have HJ := Lib.hid (just_spec (ms.getD k []) va)
  have HN := Lib.hid (known_neg va (ms.getD k []))
  unfold maxLen at rl'
  generalize ls.getD k 0 = s at *
  generalize us.getD k 0 = u at *
  generalize ms.getD k [] = m at *
  go_enter Try.func49, Try.ntmps49
  go_wp2_with fail
  refine (domHas_any (ls, us, ms) _ _ _ _ _ _ _ _ l00 l00' l01 l01' l02 l02').mono ?_
  rintro e w1 ⟨rfl, g1⟩
  have G1 : Bel w w1 := by (repeat (first | exact Bel.refl _ | apply Bel.drewN | apply Bel.drew | apply Bel.alloc | refine Bel.trans ?_ (by assumption)))
  have b0 := g1.cell (p := ⟨w.heap.size, 0, none⟩) (v := .slice (some ⟨bl, ol, none⟩) ls.length cap00) (by simp [go_sem])
  have b1 := g1.cell (p := ⟨w.heap.size, 1, none⟩) (v := .slice (some ⟨bu, ou, none⟩) us.length cap01) (by simp [go_sem])
  have b2 := g1.cell (p := ⟨w.heap.size, 2, none⟩) (v := .slice (some ⟨bm, om, none⟩) ms.length cap02) (by simp [go_sem])
  have b3 := g1.cell (p := ⟨w.heap.size + 1, 0, none⟩) (v := .int .i64 ki) (by simp [go_sem])
  have b4 := g1.cell (p := ⟨w.heap.size + 1, 1, none⟩) (v := .int .i64 k) (by simp [go_sem])
  have b5 := g1.cell (p := ⟨w.heap.size + 1, 2, none⟩) (v := .int .i64 va) (by simp [go_sem])
  have dl1 := G1.cell dl
  have du1 := G1.cell du
  have dm1 := G1.cell dm
  rw [HT.out]
  go_wp2_with fail
  go_region_held3 (fun W => W.cell? ⟨w.heap.size, 0, none⟩ = some (.slice (some ⟨bl, ol, none⟩) ls.length cap00) ∧ W.cell? ⟨w.heap.size, 1, none⟩ = some (.slice (some ⟨bu, ou, none⟩) us.length cap01) ∧ W.cell? ⟨w.heap.size, 2, none⟩ = some (.slice (some ⟨bm, om, none⟩) ms.length cap02) ∧ W.cell? ⟨w.heap.size + 1, 0, none⟩ = some (.int .i64 ki) ∧ W.cell? ⟨w.heap.size + 1, 1, none⟩ = some (.int .i64 k) ∧ W.cell? ⟨w.heap.size + 1, 2, none⟩ = some (.int .i64 va) ∧ W.cell? ⟨bl, ol + k, none⟩ = some (.int .i64 s) ∧ W.cell? ⟨bu, ou + k, none⟩ = some (.int .i64 u) ∧ W.cell? ⟨bm, om + k, none⟩ = some (.slice rp m.length rc)) (first | exact keep9 (by assumption) (by assumption) | go_keep)
    (first | (go_at_call 93; refine (iSetEqual_any _ _ m [va] S0 _ _ (intsR_good.bel hrow0.out (by (repeat (first | exact Bel.refl _ | apply Bel.drewN | apply Bel.drew | apply Bel.alloc | refine Bel.trans ?_ (by assumption)))) HSS.out) (one_rep (by simp [go_sem]) (by simp [go_sem]) HI.out)).mono ?_; rintro e w2 ⟨rfl, g2⟩) | (go_at_call 88; refine (iSetHas_any _ m va S0 _ (intsR_good.bel hrow0.out (by (repeat (first | exact Bel.refl _ | apply Bel.drewN | apply Bel.drew | apply Bel.alloc | refine Bel.trans ?_ (by assumption)))) HSS.out)).mono ?_; rintro e w' ⟨rfl, rfl⟩) | (go_at_call 92; refine (valueOf_any _ _ _).mono ?_; rintro e w' ⟨rfl, rfl⟩))
  rename_i hS
  obtain ⟨c0, c1, c2, c3, c4, c5, c6, c7, c8⟩ := hS
  have G2 : Bel w w2 := by (repeat (first | exact Bel.refl _ | apply Bel.drewN | apply Bel.drew | apply Bel.alloc | refine Bel.trans ?_ (by assumption)))
  clear g1 g2 b0 b1 b2 b3 b4 b5 dl1 du1 dm1 A00 A01 AM R0
  obtain ⟨kv, hkv⟩ : ∃ kv, knownI (decide (m = [va])) (!hasB va m) = kv := ⟨_, rfl⟩
  have hkb := knownI_bd (decide (m = [va])) (!hasB va m)
  rw [hkv] at hkb
  obtain ⟨hkb1, hkb2⟩ := hkb
  rw [hkv]
  have HK := Lib.hid hkv; clear hkv
  by_cases d1 : ki = 1
  · have HV := Lib.hid (show valB ki va s u m = knownI (decide (va ≤ s)) (decide (u < va)) from by simp [valB, d1])
    have e1 : (ki == 1) = true := by simp [d1]
    clear d1
    go_wp2_with fail
    go_quiet ((first | (go_at_call 92; exact Calls.quiet_of_same ((valueOf_any _ _ _).mono fun e w' h => ⟨h.1, h.2.symm⟩))))
    go_wp2
    go_ret
    exact ⟨ret_int (by rw [HF.out, HV.out]), by (repeat (first | exact Bel.refl _ | apply Bel.drewN | apply Bel.drew | apply Bel.alloc | refine Bel.trans ?_ (by assumption)))⟩
  by_cases d2 : ki = 2
  · have HV := Lib.hid (show valB ki va s u m = knownI (decide (u ≤ va)) (decide (va < s)) from by simp [valB, d2])
    have e1 : (ki == 1) = false := by simp [d2]
    have e2 : (ki == 2) = true := by simp [d2]
    clear d2 d1
    go_wp2_with fail
    go_quiet ((first | (go_at_call 92; exact Calls.quiet_of_same ((valueOf_any _ _ _).mono fun e w' h => ⟨h.1, h.2.symm⟩))))
    go_wp2
    go_ret
    exact ⟨ret_int (by rw [HF.out, HV.out]), by (repeat (first | exact Bel.refl _ | apply Bel.drewN | apply Bel.drew | apply Bel.alloc | refine Bel.trans ?_ (by assumption)))⟩
  by_cases d3 : ki = 3
  · have HV := Lib.hid (show valB ki va s u m = knownI (decide (m = [va])) (!hasB va m) from by simp [valB, d3])
    have e1 : (ki == 1) = false := by simp [d3]
    have e2 : (ki == 2) = false := by simp [d3]
    have e3 : (ki == 3) = true := by simp [d3]
    clear d3 d1 d2
    go_wp2
    go_ret
    exact ⟨ret_int (by rw [HF.out, HV.out, HK.out]), by (repeat (first | exact Bel.refl _ | apply Bel.drewN | apply Bel.drew | apply Bel.alloc | refine Bel.trans ?_ (by assumption)))⟩
  by_cases d4 : ki = 4
  · have HV := Lib.hid (show valB ki va s u m = - knownI (decide (m = [va])) (!hasB va m) from by simp [valB, d4])
    have e1 : (ki == 1) = false := by simp [d4]
    have e2 : (ki == 2) = false := by simp [d4]
    have e3 : (ki == 3) = false := by simp [d4]
    have e4 : (ki == 4) = true := by simp [d4]
    clear d4 d1 d2 d3
    go_wp2
    go_ret
    exact ⟨ret_int (by rw [HF.out, HV.out, HK.out]), by (repeat (first | exact Bel.refl _ | apply Bel.drewN | apply Bel.drew | apply Bel.alloc | refine Bel.trans ?_ (by assumption)))⟩
  have HV := Lib.hid (show valB ki va s u m = 1 from by simp [valB, d1, d2, d3, d4])
  have e1 : (ki == 1) = false := by simp [d1]
  have e2 : (ki == 2) = false := by simp [d2]
  have e3 : (ki == 3) = false := by simp [d3]
  have e4 : (ki == 4) = false := by simp [d4]
  clear d1 d2 d3 d4
  go_wp2
  go_ret
  exact ⟨ret_int (by rw [HF.out, HV.out]), by (repeat (first | exact Bel.refl _ | apply Bel.drewN | apply Bel.drew | apply Bel.alloc | refine Bel.trans ?_ (by assumption)))⟩

set_option maxHeartbeats 1600000 in
theorem sLiteralValue_any (v0 : Value) (x0 : DomT) (S0 : Nat → Prop) (x1 : LitT) (w : World) (h0 : aggR domR S0 w v0 x0) (_hS0 : ∀ b, S0 b → b < w.heap.size) (_hn0 : bulkDomain x0 ≤ 1048576) (hi1 : I64 x1.2.2) :
    Calls Try.prog 48 #[v0, .agg #[.int .i64 x1.1, .int .i64 x1.2.1, .int .i64 x1.2.2]] w fun e w' => e = .returned (.int .i64 (litValue x0 x1)) ∧ Bel w w' := by
  obtain ⟨cs0, rfl, h0⟩ := h0
  obtain ⟨c0, c1, c2, rfl, q00, q01, q02⟩ := domR_open h0
  obtain ⟨ls, us, ms⟩ := x0
  simp only at q00 q01 q02
  have A00 := Lib.hid (fun i hi => intsR_at' q00 (i := i) hi)
  have A01 := Lib.hid (fun i hi => intsR_at' q01 (i := i) hi)
  obtain ⟨p00, cap00, rfl, l00, l00', _⟩ := sliceR_open q00
  obtain ⟨p01, cap01, rfl, l01, l01', _⟩ := sliceR_open q01
  have Q02 := Lib.hid q02
  obtain ⟨p02, cap02, rfl, l02, l02', _⟩ := sliceR_open q02
  unfold maxLen at l00' l01' l02'
  clear h0 q00 q01 q02
  obtain ⟨ki, ac, va⟩ := x1
  have HI := Lib.hid hi1
  have AM := Lib.hid (fun i hi => rowsR_at Q02.out (i := i) hi)
  have HSS := Lib.hid _hS0
  clear _hS0 _hn0 Q02 hi1
  show Calls Try.prog 48 #[.agg #[.slice p00 ls.length cap00, .slice p01 us.length cap01, .slice p02 ms.length cap02], .agg #[.int .i64 ki, .int .i64 ac, .int .i64 va]] w _
  cases ht : thereB (ls, us, ms) ac
  · have HF := Lib.hid (show litValue (ls, us, ms) (ki, ac, va) = 1 from by simp [litValue, ht])
    have HT := Lib.hid ht; clear ht
    go_enter Try.func48, Try.ntmps48
    go_wp2_with fail
    refine (l12There_any (ls, us, ms) _ _ _ _ _ _ _ _ l00 l00' l01 l01' l02 l02').mono ?_
    rintro e w1 ⟨rfl, g1⟩
    rw [HT.out]
    go_wp2
    go_ret
    exact ⟨ret_int HF.out.symm, by (repeat (first | exact Bel.refl _ | apply Bel.drewN | apply Bel.drew | apply Bel.alloc | refine Bel.trans ?_ (by assumption)))⟩
  have HF := Lib.hid (show litValue (ls, us, ms) (ki, ac, va) = valB ki va (ls.getD ac.toNat 0) (us.getD ac.toNat 0) (ms.getD ac.toNat []) from by simp [litValue, ht])
  have HT := Lib.hid ht
  simp only [thereB, Bool.and_eq_true] at ht
  obtain ⟨t0, t1, t2⟩ := ht
  obtain ⟨k, rfl, hk0⟩ := inB_idx t0
  have hk1 : k < us.length := by simp only [inB, Bool.and_eq_true, decide_eq_true_eq] at t1; omega
  have hk2 : k < ms.length := by simp only [inB, Bool.and_eq_true, decide_eq_true_eq] at t2; omega
  clear t0 t1 t2
  rw [show ((k : Nat) : Int).toNat = k from rfl] at HF
  obtain ⟨bl, ol, el, dl⟩ := A00.out k hk0
  obtain ⟨bu, ou, eu, du⟩ := A01.out k hk1
  obtain ⟨bm, om, rp, rc, em, dm, rl, rl', hrow⟩ := AM.out k hk2
  obtain rfl : p00 = some ⟨bl, ol, none⟩ := el
  obtain rfl : p01 = some ⟨bu, ou, none⟩ := eu
  obtain rfl : p02 = some ⟨bm, om, none⟩ := em
  have hrow0 := Lib.hid hrow
  have R0 := Lib.hid (fun i hi => intsR_at' hrow (i := i) hi)
  clear hrow
  have i0 : (k : Int) < (ls.length : Int) := by omega
  have i1 : (k : Int) < (us.length : Int) := by omega
  have i2 : (k : Int) < (ms.length : Int) := by omega
  have HJ := Lib.hid (just_spec (ms.getD k []) va)
  have HN := Lib.hid (known_neg va (ms.getD k []))
  unfold maxLen at rl'
  generalize ls.getD k 0 = s at *
  generalize us.getD k 0 = u at *
  generalize ms.getD k [] = m at *
  go_enter Try.func48, Try.ntmps48
  go_wp2_with fail
  refine (l12There_any (ls, us, ms) _ _ _ _ _ _ _ _ l00 l00' l01 l01' l02 l02').mono ?_
  rintro e w1 ⟨rfl, g1⟩
  have G1 : Bel w w1 := by (repeat (first | exact Bel.refl _ | apply Bel.drewN | apply Bel.drew | apply Bel.alloc | refine Bel.trans ?_ (by assumption)))
  have b0 := g1.cell (p := ⟨w.heap.size, 0, none⟩) (v := .slice (some ⟨bl, ol, none⟩) ls.length cap00) (by simp [go_sem])
  have b1 := g1.cell (p := ⟨w.heap.size, 1, none⟩) (v := .slice (some ⟨bu, ou, none⟩) us.length cap01) (by simp [go_sem])
  have b2 := g1.cell (p := ⟨w.heap.size, 2, none⟩) (v := .slice (some ⟨bm, om, none⟩) ms.length cap02) (by simp [go_sem])
  have b3 := g1.cell (p := ⟨w.heap.size + 1, 0, none⟩) (v := .int .i64 ki) (by simp [go_sem])
  have b4 := g1.cell (p := ⟨w.heap.size + 1, 1, none⟩) (v := .int .i64 k) (by simp [go_sem])
  have b5 := g1.cell (p := ⟨w.heap.size + 1, 2, none⟩) (v := .int .i64 va) (by simp [go_sem])
  have dl1 := G1.cell dl
  have du1 := G1.cell du
  have dm1 := G1.cell dm
  rw [HT.out]
  go_wp2_with fail
  by_cases hm : m.length = 1
  · have bm1 : (((m.length : Nat) : Int) == 1) = true := by simp [hm]
    have iz : (0 : Int) < (m.length : Int) := by omega
    obtain ⟨bx, ox, ex, dx⟩ := R0.out 0 (by omega)
    obtain rfl : rp = some ⟨bx, ox, none⟩ := ex
    have dx1 := G1.cell dx
    rw [Nat.add_zero] at dx1
    by_cases hx : m.getD 0 0 = va
    · have HJB := Lib.hid (show decide (m = [va]) = true from by rw [HJ.out, decide_eq_true hm, decide_eq_true hx]; rfl)
      have HX := Lib.hid hx
      clear hm
      generalize m.getD 0 0 = X at *
      have bx1 : (X == va) = true := by simp [hx]
      clear hx dx
      go_quiet (fail)
      by_cases d1 : ki = 1
      · have HV := Lib.hid (show valB ki va s u m = knownI (decide (va ≤ s)) (decide (u < va)) from by simp [valB, d1])
        have e1 : (ki == 1) = true := by simp [d1]
        clear d1
        go_wp2_with fail
        go_quiet ((first | (go_at_call 90; exact quiet_more (l12Known_any _ _ _))))
        go_wp2
        go_ret
        exact ⟨ret_int (by rw [HF.out, HV.out]), by (repeat (first | exact Bel.refl _ | apply Bel.drewN | apply Bel.drew | apply Bel.alloc | refine Bel.trans ?_ (by assumption)))⟩
      by_cases d2 : ki = 2
      · have HV := Lib.hid (show valB ki va s u m = knownI (decide (u ≤ va)) (decide (va < s)) from by simp [valB, d2])
        have e1 : (ki == 1) = false := by simp [d2]
        have e2 : (ki == 2) = true := by simp [d2]
        clear d2 d1
        go_wp2_with fail
        go_quiet ((first | (go_at_call 90; exact quiet_more (l12Known_any _ _ _))))
        go_wp2
        go_ret
        exact ⟨ret_int (by rw [HF.out, HV.out]), by (repeat (first | exact Bel.refl _ | apply Bel.drewN | apply Bel.drew | apply Bel.alloc | refine Bel.trans ?_ (by assumption)))⟩
      by_cases d3 : ki = 3
      · have HV := Lib.hid (show valB ki va s u m = knownI (decide (m = [va])) (!hasB va m) from by simp [valB, d3])
        have e1 : (ki == 1) = false := by simp [d3]
        have e2 : (ki == 2) = false := by simp [d3]
        have e3 : (ki == 3) = true := by simp [d3]
        clear d3 d1 d2
        go_wp2_with (first | (go_at_call 87; refine (sSetHas_any _ m va S0 _ (intsR_good.bel hrow0.out (by (repeat (first | exact Bel.refl _ | apply Bel.drewN | apply Bel.drew | apply Bel.alloc | refine Bel.trans ?_ (by assumption)))) HSS.out)).mono ?_; rintro e w' ⟨rfl, rfl⟩) | (go_at_call 90; refine (l12Known_any _ _ _).mono ?_; rintro e w' ⟨rfl, rfl⟩))
        go_ret
        exact ⟨ret_int (by rw [HF.out, HV.out, HJB.out]), by (repeat (first | exact Bel.refl _ | apply Bel.drewN | apply Bel.drew | apply Bel.alloc | refine Bel.trans ?_ (by assumption)))⟩
      by_cases d4 : ki = 4
      · have HV := Lib.hid (show valB ki va s u m = - knownI (decide (m = [va])) (!hasB va m) from by simp [valB, d4])
        have e1 : (ki == 1) = false := by simp [d4]
        have e2 : (ki == 2) = false := by simp [d4]
        have e3 : (ki == 3) = false := by simp [d4]
        have e4 : (ki == 4) = true := by simp [d4]
        clear d4 d1 d2 d3
        go_wp2_with (first | (go_at_call 87; refine (sSetHas_any _ m va S0 _ (intsR_good.bel hrow0.out (by (repeat (first | exact Bel.refl _ | apply Bel.drewN | apply Bel.drew | apply Bel.alloc | refine Bel.trans ?_ (by assumption)))) HSS.out)).mono ?_; rintro e w' ⟨rfl, rfl⟩) | (go_at_call 90; refine (l12Known_any _ _ _).mono ?_; rintro e w' ⟨rfl, rfl⟩))
        go_ret
        exact ⟨ret_int (by rw [HF.out, HV.out, ← HN.out, HJB.out]), by (repeat (first | exact Bel.refl _ | apply Bel.drewN | apply Bel.drew | apply Bel.alloc | refine Bel.trans ?_ (by assumption)))⟩
      have HV := Lib.hid (show valB ki va s u m = 1 from by simp [valB, d1, d2, d3, d4])
      have e1 : (ki == 1) = false := by simp [d1]
      have e2 : (ki == 2) = false := by simp [d2]
      have e3 : (ki == 3) = false := by simp [d3]
      have e4 : (ki == 4) = false := by simp [d4]
      clear d1 d2 d3 d4
      go_wp2
      go_ret
      exact ⟨ret_int (by rw [HF.out, HV.out]), by (repeat (first | exact Bel.refl _ | apply Bel.drewN | apply Bel.drew | apply Bel.alloc | refine Bel.trans ?_ (by assumption)))⟩
    · have HJB := Lib.hid (show decide (m = [va]) = false from by rw [HJ.out, decide_eq_false hx, Bool.and_false])
      have HX := Lib.hid hx
      clear hm
      generalize m.getD 0 0 = X at *
      have bx1 : (X == va) = false := by simp [hx]
      clear hx dx
      go_quiet (fail)
      by_cases d1 : ki = 1
      · have HV := Lib.hid (show valB ki va s u m = knownI (decide (va ≤ s)) (decide (u < va)) from by simp [valB, d1])
        have e1 : (ki == 1) = true := by simp [d1]
        clear d1
        go_wp2_with fail
        go_quiet ((first | (go_at_call 90; exact quiet_more (l12Known_any _ _ _))))
        go_wp2
        go_ret
        exact ⟨ret_int (by rw [HF.out, HV.out]), by (repeat (first | exact Bel.refl _ | apply Bel.drewN | apply Bel.drew | apply Bel.alloc | refine Bel.trans ?_ (by assumption)))⟩
      by_cases d2 : ki = 2
      · have HV := Lib.hid (show valB ki va s u m = knownI (decide (u ≤ va)) (decide (va < s)) from by simp [valB, d2])
        have e1 : (ki == 1) = false := by simp [d2]
        have e2 : (ki == 2) = true := by simp [d2]
        clear d2 d1
        go_wp2_with fail
        go_quiet ((first | (go_at_call 90; exact quiet_more (l12Known_any _ _ _))))
        go_wp2
        go_ret
        exact ⟨ret_int (by rw [HF.out, HV.out]), by (repeat (first | exact Bel.refl _ | apply Bel.drewN | apply Bel.drew | apply Bel.alloc | refine Bel.trans ?_ (by assumption)))⟩
      by_cases d3 : ki = 3
      · have HV := Lib.hid (show valB ki va s u m = knownI (decide (m = [va])) (!hasB va m) from by simp [valB, d3])
        have e1 : (ki == 1) = false := by simp [d3]
        have e2 : (ki == 2) = false := by simp [d3]
        have e3 : (ki == 3) = true := by simp [d3]
        clear d3 d1 d2
        go_wp2_with (first | (go_at_call 87; refine (sSetHas_any _ m va S0 _ (intsR_good.bel hrow0.out (by (repeat (first | exact Bel.refl _ | apply Bel.drewN | apply Bel.drew | apply Bel.alloc | refine Bel.trans ?_ (by assumption)))) HSS.out)).mono ?_; rintro e w' ⟨rfl, rfl⟩) | (go_at_call 90; refine (l12Known_any _ _ _).mono ?_; rintro e w' ⟨rfl, rfl⟩))
        go_ret
        exact ⟨ret_int (by rw [HF.out, HV.out, HJB.out]), by (repeat (first | exact Bel.refl _ | apply Bel.drewN | apply Bel.drew | apply Bel.alloc | refine Bel.trans ?_ (by assumption)))⟩
      by_cases d4 : ki = 4
      · have HV := Lib.hid (show valB ki va s u m = - knownI (decide (m = [va])) (!hasB va m) from by simp [valB, d4])
        have e1 : (ki == 1) = false := by simp [d4]
        have e2 : (ki == 2) = false := by simp [d4]
        have e3 : (ki == 3) = false := by simp [d4]
        have e4 : (ki == 4) = true := by simp [d4]
        clear d4 d1 d2 d3
        go_wp2_with (first | (go_at_call 87; refine (sSetHas_any _ m va S0 _ (intsR_good.bel hrow0.out (by (repeat (first | exact Bel.refl _ | apply Bel.drewN | apply Bel.drew | apply Bel.alloc | refine Bel.trans ?_ (by assumption)))) HSS.out)).mono ?_; rintro e w' ⟨rfl, rfl⟩) | (go_at_call 90; refine (l12Known_any _ _ _).mono ?_; rintro e w' ⟨rfl, rfl⟩))
        go_ret
        exact ⟨ret_int (by rw [HF.out, HV.out, ← HN.out, HJB.out]), by (repeat (first | exact Bel.refl _ | apply Bel.drewN | apply Bel.drew | apply Bel.alloc | refine Bel.trans ?_ (by assumption)))⟩
      have HV := Lib.hid (show valB ki va s u m = 1 from by simp [valB, d1, d2, d3, d4])
      have e1 : (ki == 1) = false := by simp [d1]
      have e2 : (ki == 2) = false := by simp [d2]
      have e3 : (ki == 3) = false := by simp [d3]
      have e4 : (ki == 4) = false := by simp [d4]
      clear d1 d2 d3 d4
      go_wp2
      go_ret
      exact ⟨ret_int (by rw [HF.out, HV.out]), by (repeat (first | exact Bel.refl _ | apply Bel.drewN | apply Bel.drew | apply Bel.alloc | refine Bel.trans ?_ (by assumption)))⟩
  · have bm1 : (((m.length : Nat) : Int) == 1) = false := by simp; omega
    have HJB := Lib.hid (show decide (m = [va]) = false from by rw [HJ.out]; simp [hm])
    clear hm
    go_quiet (fail)
    by_cases d1 : ki = 1
    · have HV := Lib.hid (show valB ki va s u m = knownI (decide (va ≤ s)) (decide (u < va)) from by simp [valB, d1])
      have e1 : (ki == 1) = true := by simp [d1]
      clear d1
      go_wp2_with fail
      go_quiet ((first | (go_at_call 90; exact quiet_more (l12Known_any _ _ _))))
      go_wp2
      go_ret
      exact ⟨ret_int (by rw [HF.out, HV.out]), by (repeat (first | exact Bel.refl _ | apply Bel.drewN | apply Bel.drew | apply Bel.alloc | refine Bel.trans ?_ (by assumption)))⟩
    by_cases d2 : ki = 2
    · have HV := Lib.hid (show valB ki va s u m = knownI (decide (u ≤ va)) (decide (va < s)) from by simp [valB, d2])
      have e1 : (ki == 1) = false := by simp [d2]
      have e2 : (ki == 2) = true := by simp [d2]
      clear d2 d1
      go_wp2_with fail
      go_quiet ((first | (go_at_call 90; exact quiet_more (l12Known_any _ _ _))))
      go_wp2
      go_ret
      exact ⟨ret_int (by rw [HF.out, HV.out]), by (repeat (first | exact Bel.refl _ | apply Bel.drewN | apply Bel.drew | apply Bel.alloc | refine Bel.trans ?_ (by assumption)))⟩
    by_cases d3 : ki = 3
    · have HV := Lib.hid (show valB ki va s u m = knownI (decide (m = [va])) (!hasB va m) from by simp [valB, d3])
      have e1 : (ki == 1) = false := by simp [d3]
      have e2 : (ki == 2) = false := by simp [d3]
      have e3 : (ki == 3) = true := by simp [d3]
      clear d3 d1 d2
      go_wp2_with (first | (go_at_call 87; refine (sSetHas_any _ m va S0 _ (intsR_good.bel hrow0.out (by (repeat (first | exact Bel.refl _ | apply Bel.drewN | apply Bel.drew | apply Bel.alloc | refine Bel.trans ?_ (by assumption)))) HSS.out)).mono ?_; rintro e w' ⟨rfl, rfl⟩) | (go_at_call 90; refine (l12Known_any _ _ _).mono ?_; rintro e w' ⟨rfl, rfl⟩))
      go_ret
      exact ⟨ret_int (by rw [HF.out, HV.out, HJB.out]), by (repeat (first | exact Bel.refl _ | apply Bel.drewN | apply Bel.drew | apply Bel.alloc | refine Bel.trans ?_ (by assumption)))⟩
    by_cases d4 : ki = 4
    · have HV := Lib.hid (show valB ki va s u m = - knownI (decide (m = [va])) (!hasB va m) from by simp [valB, d4])
      have e1 : (ki == 1) = false := by simp [d4]
      have e2 : (ki == 2) = false := by simp [d4]
      have e3 : (ki == 3) = false := by simp [d4]
      have e4 : (ki == 4) = true := by simp [d4]
      clear d4 d1 d2 d3
      go_wp2_with (first | (go_at_call 87; refine (sSetHas_any _ m va S0 _ (intsR_good.bel hrow0.out (by (repeat (first | exact Bel.refl _ | apply Bel.drewN | apply Bel.drew | apply Bel.alloc | refine Bel.trans ?_ (by assumption)))) HSS.out)).mono ?_; rintro e w' ⟨rfl, rfl⟩) | (go_at_call 90; refine (l12Known_any _ _ _).mono ?_; rintro e w' ⟨rfl, rfl⟩))
      go_ret
      exact ⟨ret_int (by rw [HF.out, HV.out, ← HN.out, HJB.out]), by (repeat (first | exact Bel.refl _ | apply Bel.drewN | apply Bel.drew | apply Bel.alloc | refine Bel.trans ?_ (by assumption)))⟩
    have HV := Lib.hid (show valB ki va s u m = 1 from by simp [valB, d1, d2, d3, d4])
    have e1 : (ki == 1) = false := by simp [d1]
    have e2 : (ki == 2) = false := by simp [d2]
    have e3 : (ki == 3) = false := by simp [d3]
    have e4 : (ki == 4) = false := by simp [d4]
    clear d1 d2 d3 d4
    go_wp2
    go_ret
    exact ⟨ret_int (by rw [HF.out, HV.out]), by (repeat (first | exact Bel.refl _ | apply Bel.drewN | apply Bel.drew | apply Bel.alloc | refine Bel.trans ?_ (by assumption)))⟩

end Go.Proofs.Ytcbiknpbbldmbaa
