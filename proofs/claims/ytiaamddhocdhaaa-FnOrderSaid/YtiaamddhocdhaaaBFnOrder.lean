/- laws.FnOrder: for every input the law returns true, and each argument reads afterwards as it read before. No condition. -/
import Derived.Test.YtiaamddhocdhaaaBFnOrder1
import Derived.Test.YtiaamddhocdhaaaEq
import Derived.Test.YtiaamddhocdhaaaLit
import Derived.Laws.StructEq
import Derived.Test.YtiaamddhocdhaaaMode
import Derived.Test.YtiaamddhocdhaaaReps
import Derived.Test.YtiaamddhocdhaaaSchForm
import Derived.Test.YtiaamddhocdhaaaRows
import Derived.Test.YtiaamddhocdhaaaCur
import Derived.Test.YtiaamddhocdhaaaIn
import Derived.Test.YtiaamddhocdhaaaDrawQ
import Derived.Test.YtiaamddhocdhaaaNet
import Derived.Test.YtiaamddhocdhaaaApps
import Derived.Test.YtiaamddhocdhaaaMake
import Derived.Test.YtiaamddhocdhaaaDraw7
import Derived.Test.YtiaamddhocdhaaaHas
import Derived.Test.YtiaamddhocdhaaaSetW
import Derived.Test.YtiaamddhocdhaaaKeep
import Derived.Test.YtiaamddhocdhaaaHolds
import Derived.Deep.RegionHeld3
import Derived.ProofKit
import Derived.OpenShut
import Derived.ChangeOld

/- Seq -/
section
namespace Go.Proofs.Ytiaamddhocdhaaa
open Go.ChangeShapes Go.WideShapes Go.ChangeAt Go.RowKit
set_option linter.unusedVariables false

theorem eqLitB_dec (X Y : LitT) : eqLitB X.1 X.2.1 X.2.2 Y.1 Y.2.1 Y.2.2 = decide (X = Y) := by
  rw [Bool.eq_iff_iff]; simp [eqLitB, Prod.ext_iff]

set_option maxHeartbeats 400000 in
theorem equalInts_any (v v' : Value) (xs ys : List (Int)) (S S' : Nat → Prop) (w : World) (hx : intsR S w [v] xs) (hy : intsR S' w [v'] ys) :
    Calls Try.prog 109 #[v, v'] w fun e w' => e = .returned (.bool (decide (xs = ys))) ∧ Bel w w' := by
  obtain ⟨p, cap, rfl, h1, h2, h3⟩ := sliceR_open hx
  obtain ⟨p', cap', rfl, h1', h2', h3'⟩ := sliceR_open hy
  unfold maxLen at h2 h2'
  clear hx hy
  by_cases hE : xs.length = ys.length
  · have HE := Lib.hid hE
    have hne : (((xs.length : Nat) : Int) != ((ys.length : Nat) : Int)) = false := by simp [hE]
    clear hE
    go_enter Try.func109, Try.ntmps109
    go_wp2_with fail
    go_loopw [13] (fun i wr => ∃ k : Nat, k ≤ xs.length ∧ i = .int .i64 k ∧ Bel w wr ∧ ∀ j, j < k → xs[j]? = ys[j]?) (fun i _ => xs.length - (intOf i).toNat)
    case atStart => exact ⟨0, Nat.zero_le _, rfl, Bel.refl _, fun j hj => by omega⟩
    case round =>
      obtain ⟨k, hk, rfl, hB, hall⟩ := hrel
      have HA := Lib.hid hall; clear hall
      by_cases hlt : k < xs.length
      · have hlt' : k < ys.length := by rw [← HE.out]; exact hlt
        obtain ⟨b, off, ecs, rfl, hSb, hlen, hrow, hel⟩ := h3 k hlt
        obtain ⟨b', off', ecs', rfl, hSb', hlen', hrow', hel'⟩ := h3' k hlt'
        obtain ⟨rfl, _⟩ := hel
        obtain ⟨rfl, _⟩ := hel'
        have d0 := hB.cell (hrow 0 (by simp)).1
        simp only [List.getElem_cons_zero, Nat.mul_one, Nat.add_zero] at d0
        have f0 := hB.cell (hrow' 0 (by simp)).1
        simp only [List.getElem_cons_zero, Nat.mul_one, Nat.add_zero] at f0
        generalize hkx : xs[k] = X at *
        generalize hky : ys[k] = Y at *
        have HKX := Lib.hid hkx; clear hkx
        have HKY := Lib.hid hky; clear hky
        clear hlen hlen' hrow hrow' h3 h3'
        by_cases hXY : X = Y
        · have bne : (X != Y) = false := by simp [hXY]
          have HQ := Lib.hid hXY; clear hXY
          go_wp2_with fail
          go_quiet (fail)
          go_wp2
          go_roundw
          case rel =>
            refine ⟨k + 1, by omega, by go_num, hB.drewN _, fun j hj => ?_⟩
            by_cases e : j < k
            · exact HA.out j e
            · obtain rfl : j = k := by omega
              rw [List.getElem?_eq_getElem hlt, List.getElem?_eq_getElem hlt', HKX.out, HKY.out, HQ.out]
          case measure => simp [intOf]; omega
        · have bne : (X != Y) = true := by simp [hXY]
          have HQ := Lib.hid hXY; clear hXY
          go_wp2_with fail
          go_quiet (fail)
          go_wp2
          go_ret
          refine ⟨ret_bool ?_, hB.drewN _⟩
          symm
          rw [decide_eq_false_iff_not]
          intro h
          subst h
          exact HQ.out (by rw [← HKX.out, ← HKY.out])
      · go_wp2
        go_ret
        refine ⟨ret_bool ?_, hB⟩
        symm
        rw [decide_eq_true_eq]
        refine List.ext_getElem? fun j => ?_
        by_cases e : j < k
        · exact HA.out j e
        · have h1 : xs.length ≤ j := by omega
          rw [List.getElem?_eq_none h1, List.getElem?_eq_none (by rw [← HE.out]; exact h1)]
  · have hne : (((xs.length : Nat) : Int) != ((ys.length : Nat) : Int)) = true := by simp; omega
    have HE := Lib.hid hE; clear hE
    go_enter Try.func109, Try.ntmps109
    go_wp2
    go_ret
    refine ⟨ret_bool ?_, Bel.refl _⟩
    symm
    rw [decide_eq_false_iff_not]
    intro h
    exact HE.out (by rw [h])




theorem iSetEqual_any (v v' : Value) (xs ys : List (Int)) (S S' : Nat → Prop) (w : World) (hx : intsR S w [v] xs) (hy : intsR S' w [v'] ys) :
    Calls Try.prog 43 #[v, v'] w fun e w' => e = .returned (.bool (decide (xs = ys))) ∧ Bel w w' := by
  have hx0 := hx
  have hy0 := hy
  obtain ⟨p, cap, rfl, _⟩ := sliceR_open hx
  obtain ⟨p', cap', rfl, _⟩ := sliceR_open hy
  go_enter Try.func43, Try.ntmps43
  go_wp2_with fail
  refine (equalInts_any _ _ xs ys _ _ _ hx0 hy0).mono ?_
  rintro e w1 ⟨rfl, g⟩
  go_wp2
  go_ret
  exact ⟨rfl, g⟩




end Go.Proofs.Ytiaamddhocdhaaa
end

/- BulkOk -/
section
namespace Go.Proofs.Ytiaamddhocdhaaa
open Go.RowKit
set_option linter.unusedVariables false

theorem sumL_bdX {α : Type} (f : α → Nat) (c : Nat) : ∀ (xs : List α), (∀ x, x ∈ xs → f x ≤ c) → sumL (xs.map f) ≤ xs.length * c := by
  intro xs
  induction xs with
  | nil => intro _; simp [sumL]
  | cons x xs ih =>
    intro h
    rw [List.map_cons, sumL_cons, List.length_cons, Nat.succ_mul]
    have := h x List.mem_cons_self
    have := ih fun y hy => h y (List.mem_cons_of_mem _ hy)
    omega
theorem mem_getDX {α : Type} {xs : List α} {x : α} (d : α) (h : x ∈ xs) : ∃ i, i < xs.length ∧ xs.getD i d = x := by
  obtain ⟨i, hi, rfl⟩ := List.getElem_of_mem h
  exact ⟨i, hi, by simp [List.getD, hi]⟩
theorem amounts_lenX {l : List Int} {n : Nat} (h : amountsB l n = true) : l.length = n := by
  unfold amountsB at h
  simp only [Bool.and_eq_true, decide_eq_true_eq] at h
  omega
theorem projOk_act_name {p : ProjT} (h : projOk p = true) {k : Nat} (hk : k < p.2.1.length) : (p.2.1.getD k zAct).1.size ≤ 8 := by
  have h1 := projOk_act h hk
  unfold actAtOk actOkB isNameB inBv at h1
  simp only [Bool.and_eq_true, decide_eq_true_eq] at h1
  omega
theorem resOk_bdX {r : ResT} (h : resOkB r = true) : r.1.length ≤ 8 ∧ r.2.length ≤ 4 ∧ ∀ x, x ∈ r.2 → x.length = 4 := by
  unfold resOkB stepsOkB inBv at h
  simp only [Bool.and_eq_true, decide_eq_true_eq, Bool.or_eq_true] at h
  refine ⟨by omega, by omega, fun x hx => ?_⟩
  obtain ⟨i, hi, rfl⟩ := mem_getDX [] hx
  have h1 := List.all_eq_true.1 h.1 i (List.mem_range.2 hi)
  unfold rowOkB at h1
  simp only [Bool.and_eq_true, decide_eq_true_eq] at h1
  exact h1.1
theorem projOk_resX {p : ProjT} (h : projOk p = true) {k : Nat} (hk : k < p.2.2.2.1.length) : resOkB (p.2.2.2.1.getD k zRes) = true := by
  unfold projOk at h
  simp only [Bool.and_eq_true] at h
  exact List.all_eq_true.1 h.2.2.1 k (List.mem_range.2 hk)
theorem bulkAct_leX {p : ProjT} (h : projOk p = true) : ∀ x, x ∈ p.2.1 → bulkActivity x ≤ 100 := by
  intro x hx
  obtain ⟨i, hi, rfl⟩ := mem_getDX zAct hx
  have hb := projOk_bd h
  have h1 := projOk_act_name h hi
  have h2 := projOk_modes h hi
  have h3 : sumL ((p.2.1.getD i zAct).2.2.map bulkMode) ≤ (p.2.1.getD i zAct).2.2.length * 10 := sumL_bdX _ _ _ fun m hm => by
    obtain ⟨j, hj, rfl⟩ := mem_getDX zMode hm
    have h4 := projOk_mode h hi hj
    unfold modeOkB at h4
    simp only [Bool.and_eq_true] at h4
    have h5 := amounts_lenX h4.2.1
    have h6 := amounts_lenX h4.2.2
    unfold bulkMode bulkIntS
    omega
  unfold bulkActivity bulkModeS
  generalize (p.2.1.getD i zAct).2.2.length = M at *
  have : M * 10 ≤ 3 * 10 := Nat.mul_le_mul_right _ h2.2
  omega
theorem bulkRes_leX {p : ProjT} (h : projOk p = true) : ∀ x, x ∈ p.2.2.2.1 → bulkResource x ≤ 100 := by
  intro x hx
  obtain ⟨i, hi, rfl⟩ := mem_getDX zRes hx
  obtain ⟨h1, h2, h3⟩ := resOk_bdX (projOk_resX h hi)
  have h4 : sumL ((p.2.2.2.1.getD i zRes).2.map bulkIntS) ≤ (p.2.2.2.1.getD i zRes).2.length * 4 := sumL_bdX _ _ _ fun m hm => by
    unfold bulkIntS
    rw [h3 m hm]; exact Nat.le_refl _
  unfold bulkResource bulkStepS bulkIntSS
  generalize (p.2.2.2.1.getD i zRes).2.length = M at *
  have : M * 4 ≤ 4 * 4 := Nat.mul_le_mul_right _ h2
  omega
theorem bulkProj_ok {p : ProjT} (h : projOk p = true) : bulkProject p ≤ 1048576 := by
  have hb := projOk_bd h
  have h1 := sumL_bdX bulkActivity 100 p.2.1 (bulkAct_leX h)
  have h2 := sumL_bdX bulkResource 100 p.2.2.2.1 (bulkRes_leX h)
  unfold bulkProject bulkActivityS bulkResourceS bulkLinkS bulkIntS
  have : p.2.1.length * 100 ≤ 6 * 100 := Nat.mul_le_mul_right _ hb.2.1
  have : p.2.2.2.1.length * 100 ≤ 3 * 100 := Nat.mul_le_mul_right _ hb.2.2.1
  omega
theorem bulkSch_ok {p : ProjT} {s : SchT} (h : schFormB p s = true) : bulkSchedule s ≤ 1048576 := by
  unfold schFormB at h
  simp only [Bool.and_eq_true, decide_eq_true_eq] at h
  have hb := projOk_bd h.1
  unfold bulkSchedule bulkIntS
  omega
end Go.Proofs.Ytiaamddhocdhaaa
end

/- Types -/
section
namespace Go.Proofs.Ytiaamddhocdhaaa
open Go.RowKit
set_option linter.unusedVariables false
set_option maxRecDepth 10000

theorem laidOutAll : laidOutB Try.prog = true := by kernel_rfl
theorem ownKnobNone : ownKnob Try.prog.godebug = none := by kernel_rfl
theorem opInt {H : Type} {enc : TypeId × Value → H} (w : World) : Opens enc Try.prog w 3 intR := opens_int Try.underlying3
theorem opBool {H : Type} {enc : TypeId × Value → H} (w : World) : Opens enc Try.prog w 4 boolR := opens_bool Try.underlying4
theorem opStr {H : Type} {enc : TypeId × Value → H} (w : World) : Opens enc Try.prog w 9 strR := opens_string Try.underlying9
theorem opInts {H : Type} {enc : TypeId × Value → H} (w : World) : Opens enc Try.prog w 25 intsR := opens_slice Try.underlying25 (by kernel_rfl) (by decide) (opInt w)
theorem opSch {H : Type} {enc : TypeId × Value → H} (w : World) : Opens enc Try.prog w 90 schR := opens_struct2 Try.underlying90 (by kernel_rfl) ⟨by kernel_rfl, by kernel_rfl⟩ ⟨by kernel_rfl, by kernel_rfl⟩ (opInts w) (opInts w)
theorem opRows {H : Type} {enc : TypeId × Value → H} (w : World) : Opens enc Try.prog w 63 rowsR := opens_slice Try.underlying63 (by kernel_rfl) (by decide) (opInts w)
theorem opStep {H : Type} {enc : TypeId × Value → H} (w : World) : Opens enc Try.prog w 216 stepR := opens_struct2 Try.underlying216 (by kernel_rfl) ⟨by kernel_rfl, by kernel_rfl⟩ ⟨by kernel_rfl, by kernel_rfl⟩ (opInt w) (opInt w)
theorem opSteps {H : Type} {enc : TypeId × Value → H} (w : World) : Opens enc Try.prog w 153 stepsR := opens_slice Try.underlying153 (by kernel_rfl) (by decide) (opStep w)
theorem opMode {H : Type} {enc : TypeId × Value → H} (w : World) : Opens enc Try.prog w 213 modeR := opens_struct3 Try.underlying213 (by kernel_rfl) ⟨by kernel_rfl, by kernel_rfl⟩ ⟨by kernel_rfl, by kernel_rfl⟩ ⟨by kernel_rfl, by kernel_rfl⟩ (opInt w) (opInts w) (opInts w)
theorem opModes {H : Type} {enc : TypeId × Value → H} (w : World) : Opens enc Try.prog w 149 modesR := opens_slice Try.underlying149 (by kernel_rfl) (by decide) (opMode w)
theorem opAct {H : Type} {enc : TypeId × Value → H} (w : World) : Opens enc Try.prog w 151 actR := opens_struct3 Try.underlying151 (by kernel_rfl) ⟨by kernel_rfl, by kernel_rfl⟩ ⟨by kernel_rfl, by kernel_rfl⟩ ⟨by kernel_rfl, by kernel_rfl⟩ (opStr w) (opInt w) (opModes w)
theorem opActs {H : Type} {enc : TypeId × Value → H} (w : World) : Opens enc Try.prog w 22 actsR := opens_slice Try.underlying22 (by kernel_rfl) (by decide) (opAct w)
theorem opRes {H : Type} {enc : TypeId × Value → H} (w : World) : Opens enc Try.prog w 155 resR := opens_struct2 Try.underlying155 (by kernel_rfl) ⟨by kernel_rfl, by kernel_rfl⟩ ⟨by kernel_rfl, by kernel_rfl⟩ (opSteps w) (opRows w)
theorem opRess {H : Type} {enc : TypeId × Value → H} (w : World) : Opens enc Try.prog w 24 ressR := opens_slice Try.underlying24 (by kernel_rfl) (by decide) (opRes w)
theorem opLink {H : Type} {enc : TypeId × Value → H} (w : World) : Opens enc Try.prog w 159 linkR := opens_struct4 Try.underlying159 (by kernel_rfl) ⟨by kernel_rfl, by kernel_rfl⟩ ⟨by kernel_rfl, by kernel_rfl⟩ ⟨by kernel_rfl, by kernel_rfl⟩ ⟨by kernel_rfl, by kernel_rfl⟩ (opInt w) (opInt w) (opBool w) (opInt w)
theorem opLinks {H : Type} {enc : TypeId × Value → H} (w : World) : Opens enc Try.prog w 23 linksR := opens_slice Try.underlying23 (by kernel_rfl) (by decide) (opLink w)
theorem opProj {H : Type} {enc : TypeId × Value → H} (w : World) : Opens enc Try.prog w 27 projR := opens_struct5 Try.underlying27 (by kernel_rfl) ⟨by kernel_rfl, by kernel_rfl⟩ ⟨by kernel_rfl, by kernel_rfl⟩ ⟨by kernel_rfl, by kernel_rfl⟩ ⟨by kernel_rfl, by kernel_rfl⟩ ⟨by kernel_rfl, by kernel_rfl⟩ (opInt w) (opActs w) (opLinks w) (opRess w) (opInts w)
end Go.Proofs.Ytiaamddhocdhaaa
end

/- Code -/
section
namespace Go.Proofs.Ytiaamddhocdhaaa
open Go.RowKit
set_option linter.unusedVariables false
theorem opens_u8 {P : Program} {H : Type} {enc : TypeId × Value → H} {w : World} {t : TypeId} (ht : P.underlying t = some (.int .u8)) : Opens enc P w t u8R := by
  intro fuel cs y h hn
  obtain ⟨n, h1, _, h3⟩ := DataW.trod_int ht h
  exact ⟨n, h1, by simpa [Lit.wf, IntKind.min, IntKind.max, IntKind.signed, IntKind.bits] using h3⟩
theorem opU8 {H : Type} {enc : TypeId × Value → H} (w : World) : Opens enc Try.prog w 5 u8R := opens_u8 Try.underlying5
theorem opBytes {H : Type} {enc : TypeId × Value → H} (w : World) : Opens enc Try.prog w 38 bytesR := opens_slice Try.underlying38 (by kernel_rfl) (by decide) (opU8 w)
end Go.Proofs.Ytiaamddhocdhaaa
end

/- Sign -/
section
namespace Go.Proofs.Ytiaamddhocdhaaa
open Go.ChangeShapes Go.WideShapes Go.ChangeAt Go.RowKit
set_option linter.unusedVariables false

def ruleStr : Nat → ByteArray
  | 0 => ⟨#[110, 111, 110, 101]⟩
  | 1 => ⟨#[108, 105, 110, 107]⟩
  | 2 => ⟨#[101, 110, 100]⟩
  | 3 => ⟨#[116, 105, 109, 101]⟩
  | 4 => ⟨#[119, 111, 114, 107]⟩
  | 5 => ⟨#[112, 97, 105, 114]⟩
  | 6 => ⟨#[115, 116, 111, 99, 107]⟩
  | _ => ⟨#[]⟩

def ruleNameF (n : Int) : ByteArray := if inB n 0 6 then ruleStr n.toNat else ⟨#[]⟩
theorem ruleNameF_no (n : Int) (h : inB n 0 6 = false) : ruleNameF n = ⟨#[]⟩ := by simp [ruleNameF, h]

def signStr : Nat → ByteArray
  | 1 => ⟨#[62, 61]⟩
  | 2 => ⟨#[60, 61]⟩
  | 3 => ⟨#[61]⟩
  | 4 => ⟨#[33, 61]⟩
  | _ => ⟨#[]⟩
def signF (n : Int) : ByteArray := if inB n 1 4 then signStr n.toNat else ⟨#[]⟩
theorem signF_no (n : Int) (h : inB n 1 4 = false) : signF n = ⟨#[]⟩ := by simp [signF, h]

theorem iRuleName (n : Int) (w : World) :
    Calls Try.prog 29 #[.int .i64 n] w fun e w' => e = .returned (.string (ruleNameF n)) ∧ Bel w w' := by
  cases hb : inB n 0 6
  · have HF := Lib.hid (ruleNameF_no n hb)
    go_enter Try.func29, Try.ntmps29
    go_wp2_with (go_at_call 82; refine (within_any _ _ _ _).mono ?_; rintro e w' ⟨rfl, rfl⟩)
    go_ret
    exact ⟨ret_str HF.out.symm, by repeat (first | exact Bel.refl _ | apply Bel.drew | apply Bel.alloc)⟩
  · obtain ⟨k, rfl, hk⟩ := inB_cases n 6 hb
    clear hb
    have hc : k = 0 ∨ k = 1 ∨ k = 2 ∨ k = 3 ∨ k = 4 ∨ k = 5 ∨ k = 6 := by omega
    clear hk
    rcases hc with rfl | rfl | rfl | rfl | rfl | rfl | rfl
    all_goals
      go_enter Try.func29, Try.ntmps29
      go_wp2_with (go_at_call 82; refine (within_any _ _ _ _).mono ?_; rintro e w' ⟨rfl, rfl⟩)
      go_ret
      exact ⟨rfl, by repeat (first | exact Bel.refl _ | apply Bel.drew | apply Bel.alloc)⟩



theorem iLiteralSign (n : Int) (w : World) :
    Calls Try.prog 22 #[.int .i64 n] w fun e w' => e = .returned (.string (signF n)) ∧ w = w' := by
  cases hb : inB n 1 4
  · have HF := Lib.hid (signF_no n hb)
    simp only [inB, Bool.and_eq_false_iff, decide_eq_false_iff_not] at hb
    have h1 : (n == 1) = false := by simp; omega
    have h2 : (n == 2) = false := by simp; omega
    have h3 : (n == 3) = false := by simp; omega
    have h4 : (n == 4) = false := by simp; omega
    clear hb
    go_enter Try.func22, Try.ntmps22
    go_wp2
    go_ret
    exact ⟨ret_str HF.out.symm, rfl⟩
  · obtain ⟨k, rfl, hk1, hk⟩ := inB_cases1 n 4 hb
    clear hb
    have hc : k = 1 ∨ k = 2 ∨ k = 3 ∨ k = 4 := by omega
    clear hk hk1
    rcases hc with rfl | rfl | rfl | rfl
    all_goals
      go_enter Try.func22, Try.ntmps22
      go_wp2
      go_ret
      exact ⟨rfl, rfl⟩

end Go.Proofs.Ytiaamddhocdhaaa
end

/- LitsF -/
section
namespace Go.Proofs.Ytiaamddhocdhaaa
open Go.RowKit
set_option linter.unusedVariables false

theorem litOk_cases {p : ProjT} {l : LitT} (h : litOkB p l = true) : (∃ a : Nat, l.2.1 = a ∧ a < p.2.1.length) ∧ (l.1 = 1 ∨ l.1 = 2 ∨ l.1 = 3 ∨ l.1 = 4) := by
  unfold litOkB at h
  simp only [Bool.and_eq_true] at h
  obtain ⟨h1, h2, h3⟩ := h
  simp only [inBv, Bool.and_eq_true, decide_eq_true_eq] at h2
  obtain ⟨a, ha⟩ := Int.eq_ofNat_of_zero_le h2.1
  refine ⟨⟨a, ha, by omega⟩, ?_⟩
  unfold litAt at h3
  by_cases e1 : l.1 = 1
  · exact .inl e1
  rw [if_neg e1] at h3
  by_cases e2 : l.1 = 2
  · exact .inr (.inl e2)
  rw [if_neg e2] at h3
  by_cases e3 : l.1 = 3
  · exact .inr (.inr (.inl e3))
  rw [if_neg e3] at h3
  by_cases e4 : l.1 = 4
  · exact .inr (.inr (.inr e4))
  rw [if_neg e4] at h3
  cases h3
theorem schForm_lens {p : ProjT} {s : SchT} (h : schFormB p s = true) : s.1.length = p.2.1.length ∧ s.2.length = p.2.1.length := by
  unfold schFormB at h
  simp only [Bool.and_eq_true, decide_eq_true_eq] at h
  exact ⟨h.2.1, h.2.2.1⟩
/-- The values of a literal lie close by. -/
theorem litOk_val {p : ProjT} {l : LitT} (h : litOkB p l = true) : -1 ≤ l.2.2 ∧ l.2.2 ≤ 61 := by
  have hp : projOk p = true := by unfold litOkB at h; simp only [Bool.and_eq_true] at h; exact h.1
  obtain ⟨⟨a, ha, hlt⟩, hk⟩ := litOk_cases h
  have hm := projOk_modes hp hlt
  unfold litOkB at h
  simp only [Bool.and_eq_true] at h
  obtain ⟨-, -, h3⟩ := h
  rw [ha] at h3
  simp only [Int.toNat_natCast] at h3
  unfold litAt at h3
  generalize (p.2.1.getD a zAct).2.2.length = M at *
  rcases hk with e | e | e | e <;> rw [e] at h3 <;> simp [inBv] at h3 <;> omega
theorem neg_holds {p : ProjT} {l : LitT} {s : SchT} (h : litOkB p l = true) (hs : schFormB p s = true) : litHolds (negL l.1 l.2.1 l.2.2) s = !litHolds l s := by
  obtain ⟨⟨a, ha, hlt⟩, hk⟩ := litOk_cases h
  have hv := litOk_val h
  obtain ⟨k, l2, v⟩ := l
  simp only at ha hk hv
  subst ha
  obtain ⟨h1, h2⟩ := schForm_lens hs
  have i1 : inB (a : Int) 0 ((s.1.length : Int) - 1) = true := by simp [inB]; omega
  have i2 : inB (a : Int) 0 ((s.2.length : Int) - 1) = true := by simp [inB]; omega
  have i3 : inB v (-100000) 100000 = true := by simp [inB]; omega
  have key : ∀ k' v', litHolds (k', (a : Int), v') s = holdsB k' v' (s.1.getD a 0) (s.2.getD a 0) := fun k' v' => by
    unfold litHolds
    simp only
    rw [i1, i2]
    rfl
  rw [key]
  generalize s.1.getD a 0 = X at *
  generalize s.2.getD a 0 = Y at *
  unfold negL
  rw [i3, if_pos rfl]
  rcases hk with rfl | rfl | rfl | rfl
  · rw [if_pos rfl, key, holdsB, holdsB]
    by_cases e : v ≤ X
    · simp [e]; omega
    · simp [e]; omega
  · rw [if_neg (by simp), if_pos rfl, key, holdsB, holdsB]
    by_cases e : X ≤ v
    · simp [e]; omega
    · simp [e]; omega
  · rw [if_neg (by simp), if_neg (by simp), if_pos rfl, key, holdsB, holdsB]
    simp
  · rw [if_neg (by simp), if_neg (by simp), if_neg (by simp), if_pos rfl, key, holdsB, holdsB]
    simp
theorem neg_neg {p : ProjT} {l : LitT} (h : litOkB p l = true) : negL (negL l.1 l.2.1 l.2.2).1 (negL l.1 l.2.1 l.2.2).2.1 (negL l.1 l.2.1 l.2.2).2.2 = l := by
  obtain ⟨-, hk⟩ := litOk_cases h
  have hv := litOk_val h
  obtain ⟨k, a, v⟩ := l
  simp only at hk hv
  have i0 : inB v (-100000) 100000 = true := by simp [inB]; omega
  have i1 : inB (v - 1) (-100000) 100000 = true := by simp [inB]; omega
  have i2 : inB (v + 1) (-100000) 100000 = true := by simp [inB]; omega
  rcases hk with rfl | rfl | rfl | rfl <;> simp [negL, i0, i1, i2] <;> omega
theorem cmpI_swap (a b : Int) : cmpI a b = -cmpI b a := by unfold cmpI; split <;> split <;> (try split) <;> omega
theorem cmpI_zero (a b : Int) : cmpI a b = 0 ↔ a = b := by unfold cmpI; split <;> (try split) <;> omega
theorem cmpL_swap (k a v k' a' v' : Int) : cmpL k a v k' a' v' = -cmpL k' a' v' k a v := by
  unfold cmpL or3
  rw [cmpI_swap a' a, cmpI_swap k' k, cmpI_swap v' v]
  split <;> split <;> (try split) <;> (try split) <;> omega
theorem cmpL_zero (k a v k' a' v' : Int) : cmpL k a v k' a' v' = 0 ↔ k = k' ∧ a = a' ∧ v = v' := by
  unfold cmpL or3
  rw [← cmpI_zero k k', ← cmpI_zero a a', ← cmpI_zero v v']
  split <;> (try split) <;> omega
theorem cmpL_bd (k a v k' a' v' : Int) : -1 ≤ cmpL k a v k' a' v' ∧ cmpL k a v k' a' v' ≤ 1 := by
  unfold cmpL or3 cmpI
  repeat' split
  all_goals omega
theorem sign_some {p : ProjT} {l : LitT} (h : litOkB p l = true) : signF l.1 ≠ ⟨#[]⟩ := by
  obtain ⟨-, hk⟩ := litOk_cases h
  rcases hk with e | e | e | e <;> rw [e] <;> decide
end Go.Proofs.Ytiaamddhocdhaaa
end

/- RingF -/
section
namespace Go.Proofs.Ytiaamddhocdhaaa
open Go.RowKit
set_option linter.unusedVariables false

/-- The links of a project, weighed by their gaps. -/
def netOf (p : ProjT) : Net := ⟨p.2.1.length, p.2.2.1.length, fun j => (p.2.2.1.getD j zLink).1.toNat, fun j => (p.2.2.1.getD j zLink).2.1.toNat, fun j => fullGapV p (p.2.2.1.getD j zLink)⟩
theorem netOf_at {p : ProjT} (h : projOk p = true) {j : Nat} (hj : j < p.2.2.1.length) : (p.2.2.1.getD j zLink).1 = ((netOf p).fr j : Nat) ∧ (p.2.2.1.getD j zLink).2.1 = ((netOf p).to j : Nat) ∧ (netOf p).fr j < p.2.1.length ∧ (netOf p).to j < p.2.1.length ∧ (netOf p).fr j ≠ (netOf p).to j ∧ -60 ≤ (netOf p).gp j ∧ (netOf p).gp j ≤ 72 := by
  obtain ⟨⟨a, ha, ha'⟩, ⟨b, hb, hb'⟩, hne, _, _⟩ := linkOk_bd (projOk_link h hj)
  have hg := fullGapV_bd h (projOk_link h hj)
  have e1 : (netOf p).fr j = a := by show (p.2.2.1.getD j zLink).1.toNat = a; rw [ha]; rfl
  have e2 : (netOf p).to j = b := by show (p.2.2.1.getD j zLink).2.1.toNat = b; rw [hb]; rfl
  rw [e1, e2]
  exact ⟨ha, hb, ha', hb', fun e => hne (by rw [ha, hb, e]), hg⟩
theorem netOf_fine {p : ProjT} (h : projOk p = true) : (netOf p).Fine :=
  ⟨fun j hj => by obtain ⟨_, _, h3, h4, h5, h6, h7⟩ := netOf_at h hj; exact ⟨h3, h4, h5, h6, h7⟩, (projOk_bd h).2.1⟩
def nI (l : List Nat) : List Int := l.map fun (n : Nat) => (n : Int)
theorem nI_length (l : List Nat) : (nI l).length = l.length := by simp [nI]
theorem nI_at (l : List Nat) (i : Nat) : (nI l).getD i 0 = ((l.getD i 0 : Nat) : Int) := by
  unfold nI
  simp only [List.getD, List.getElem?_map]
  cases l[i]? <;> rfl
theorem nI_append (a b : List Nat) : nI (a ++ b) = nI a ++ nI b := by simp [nI]
theorem nI_one (k : Nat) : nI [k] = [(k : Int)] := rfl
theorem headD_at (l : List Nat) : l.headD 0 = l.getD 0 0 := by cases l <;> rfl
theorem lastD_at (l : List Nat) (n : Nat) (h : l.length = n + 1) : l.getLastD 0 = l.getD n 0 := by
  cases l with
  | nil => simp at h
  | cons a t =>
    have : (a :: t).getLastD 0 = (a :: t).getLast (by simp) := by simp [List.getLastD]
    rw [this, List.getLast_eq_getElem]
    simp only [List.length_cons, Nat.add_right_cancel_iff] at h
    simp [List.getD, ← h]
theorem getD_in {l : List Nat} {i : Nat} (h : i < l.length) : l.getD i 0 ∈ l := by
  rw [show l.getD i 0 = l[i] from by simp [List.getD, h]]
  exact List.getElem_mem h
theorem wt_take (N : Net) (l : List Nat) {i : Nat} (h : i < l.length) : N.wt (l.take (i + 1)) = N.wt (l.take i) + N.gp (l.getD i 0) := by
  rw [List.take_succ_eq_append_getElem h, N.wt_append]
  simp [Net.wt, List.getD, h]
theorem wt_bd (N : Net) (hF : N.Fine) : ∀ l : List Nat, (∀ x ∈ l, x < N.nl) → -60 * (l.length : Int) ≤ N.wt l ∧ N.wt l ≤ 72 * (l.length : Int)
  | [], _ => by simp [Net.wt]
  | j :: t, h => by
    have h1 := wt_bd N hF t (fun x hx => h x (by simp [hx]))
    have h2 := hF.at_ j (h j (by simp))
    simp only [Net.wt, List.length_cons]
    omega
def posV (p : ProjT) : List Int := if projOk p = true then nI (netOf p).posF else []
theorem posV_no {p : ProjT} (h : projOk p = false) : posV p = [] := by unfold posV; rw [h]; rfl
theorem posV_ok {p : ProjT} (h : projOk p = true) : posV p = nI (netOf p).posF := by unfold posV; rw [if_pos h]
theorem posF_sound (N : Net) (h : N.posF ≠ []) : ∃ u, N.wk u N.posF u ∧ 0 < N.wt N.posF ∧ N.posF.length ≤ N.n := by
  obtain ⟨t, ht, h1, h2⟩ := firstV_of h
  have h2' : N.posF = firstV (fun k => N.ringF (t + 1) [k]) N.nl := h2
  obtain ⟨k, hk, h3, h4⟩ := firstV_of h1
  rw [h2', h4]
  obtain ⟨u, h5, h6, h7⟩ := N.ringF_sound (t + 1) [k] (N.fr k) (N.to k) ⟨hk, rfl, rfl⟩ (by simp) h3
  exact ⟨u, h5, h6, by rw [h7]; simp; omega⟩
theorem posV_len (p : ProjT) : (posV p).length ≤ 1048576 := by
  unfold posV
  split
  · rename_i h
    rw [nI_length]
    by_cases hn : (netOf p).posF = []
    · rw [hn]; simp
    · obtain ⟨u, _, _, h3⟩ := posF_sound _ hn
      have h4 : (netOf p).n ≤ 6 := (netOf_fine h).le
      omega
  · simp
theorem ring_zero (N : Net) (way : List Nat) : N.ringF 0 way = if N.to (way.getLastD 0) = N.fr (way.headD 0) ∧ 0 < N.wt way then way else [] := rfl
theorem ring_succ (N : Net) (f : Nat) (way : List Nat) : N.ringF (f + 1) way = if N.to (way.getLastD 0) = N.fr (way.headD 0) then [] else
      if (way.dropLast.map N.to).contains (N.to (way.getLastD 0)) then [] else
        firstV (fun k => if way.headD 0 < k ∧ N.fr k = N.to (way.getLastD 0) then N.ringF f (way ++ [k]) else []) N.nl := rfl
theorem drop_no {N : Net} {way : List Nat} {z : Nat} (h : ∀ j, j + 1 < way.length → N.to (way.getD j 0) ≠ z) : ((way.dropLast.map N.to).contains z) = false := by
  rw [Bool.eq_false_iff]
  intro hc
  rw [List.contains_iff_mem, List.mem_map] at hc
  obtain ⟨x, hx, hxz⟩ := hc
  obtain ⟨i, hi, rfl⟩ := List.getElem_of_mem hx
  simp only [List.length_dropLast] at hi
  refine h i (by omega) ?_
  rw [List.getElem_dropLast] at hxz
  rw [← hxz]
  simp [List.getD, show i < way.length from by omega]
theorem drop_yes {N : Net} {way : List Nat} {z j : Nat} (hj : j + 1 < way.length) (h : N.to (way.getD j 0) = z) : ((way.dropLast.map N.to).contains z) = true := by
  rw [List.contains_iff_mem, List.mem_map]
  refine ⟨way.getD j 0, ?_, h⟩
  have : way.getD j 0 = way.dropLast[j]'(by simp; omega) := by
    rw [List.getElem_dropLast]
    simp [List.getD, show j < way.length from by omega]
  rw [this]
  exact List.getElem_mem _
/-- The cells of a link. -/
theorem link_at {S : Nat → Prop} {w : World} {q : Option Addr} {n k : Nat} {xs : List LinkT} (h : linksR S w [.slice q n k] xs) {j : Nat} (hj : j < xs.length) : ∃ b off, q = some ⟨b, off, none⟩ ∧
    w.cell? ⟨b, off + j * 4, none⟩ = some (.int .i64 (xs.getD j zLink).1) ∧ w.cell? ⟨b, off + j * 4 + 1, none⟩ = some (.int .i64 (xs.getD j zLink).2.1) ∧ w.cell? ⟨b, off + j * 4 + 2, none⟩ = some (.bool (xs.getD j zLink).2.2.1) ∧ w.cell? ⟨b, off + j * 4 + 3, none⟩ = some (.int .i64 (xs.getD j zLink).2.2.2) := by
  obtain ⟨b, off, ecs, ea, hrow, hel⟩ := sliceR_at zLink h hj
  obtain ⟨rfl, _, _, _⟩ := linkR_open hel
  exact ⟨b, off, ea, (hrow 0 (by simp)).1, (hrow 1 (by simp)).1, (hrow 2 (by simp)).1, (hrow 3 (by simp)).1⟩
theorem cell_obj {w : World} {g : Nat} {cs : Array Value} {t : TypeId} (h : w.heap[g]? = some (.cells cs t (0, 0))) (j : Nat) : w.cell? ⟨g, j, none⟩ = cs[j]? := by simp [World.cell?, h]
/-- A datum that was made behind wr. -/
def CutI (wr : World) (xs : List Int) (s : Value) (wx : World) : Prop := intsR (New wr wx) wx [s] xs ∧ Bel wr wx
theorem alloc_keep {w : World} {g : Nat} {o o' : Obj} (h : w.heap[g]? = some o) : (w.alloc o').heap[g]? = some o := by
  have hlt := (Array.getElem?_eq_some_iff.1 h).1
  rw [← h]
  show (w.heap.push _)[g]? = _
  rw [Array.getElem?_push, if_neg (by omega)]
theorem drew_keep {w : World} {g : Nat} {o : Obj} (h : w.heap[g]? = some o) : w.drew.heap[g]? = some o := h
def RingRes (w : World) (V : Nat → Prop) (res : List Nat) (e : Ending) (w' : World) : Prop := ∃ v, e = .returned v ∧ intsR (fun b => V b ∨ New w w' b) w' [v] (nI res) ∧ Bel w w'
theorem RingRes.nil {w w' : World} {V : Nat → Prop} (h : Bel w w') : RingRes w V [] (.returned (.slice none 0 0)) w' := ⟨_, rfl, ⟨none, 0, rfl, Nat.le_refl _, Nat.zero_le _, fun i hi => absurd hi (Nat.not_lt_zero _)⟩, h⟩
end Go.Proofs.Ytiaamddhocdhaaa
end

/- FldP -/
section
namespace Go.Proofs.Ytiaamddhocdhaaa
open Go.RowKit
set_option linter.unusedVariables false

theorem run_links_field (a b c d e : Value) (w : World) : Sem.run Try.prog (Instr.field 34 (.agg #[a, b, c, d, e]) 2) w = .ok c w := by
  unfold Instr.field part isAgg
  simp [go_sem, asAgg]
end Go.Proofs.Ytiaamddhocdhaaa
end

/- WOrder -/
section
namespace Go.Proofs.Ytiaamddhocdhaaa
open Go.ChangeShapes Go.WideShapes Go.ChangeAt Go.RowKit
set_option linter.unusedVariables false

theorem atV_row {n k na a : Nat} {o : List Int} (ho : o.getD k 0 = (na : Int)) (ha : a < n) : (atV n o (k + 1)).getD a 0 = if a = na then (k : Int) else (atV n o k).getD a 0 := by
  simp only [atV, List.getD_eq_getElem?_getD] at *
  rw [ho, Int.toNat_natCast]
  split
  · next e => rw [e, List.getElem?_set_self (by rw [atV_length]; omega)]; rfl
  · next e => rw [List.getElem?_set_ne (Ne.symm e)]
set_option maxRecDepth 100000 in
set_option maxHeartbeats 4000000 in
theorem fnOrder_walk (v0 : Value) (C : List Int) (w : World) (h0 : bytesR (Old w) w [v0] C) :
    Calls Try.prog 7 #[v0] w fun e w' => e = .returned (.bool true) ∧ Bel w w' := by
  obtain ⟨q, c, rfl, hq1, hq2, -⟩ := sliceR_open h0
  unfold maxLen at hq2
  have HC := Lib.hid (show ∀ W, Bel w W → bytesR (Old w) W [.slice q C.length c] C ∧ (∀ b, Old w b → b < W.heap.size) from fun W hW => ⟨bytesR_good.bel h0 hW (fun b hb => hb), fun b hb => Nat.lt_of_lt_of_le hb hW.size⟩)
  clear h0
  by_cases hl : C.length ≤ 1048576
  rotate_left
  · have hli : (1048576 : Int) < (C.length : Int) := by omega
    go_enter Try.func7, Try.ntmps7
    go_wp2_with fail
    go_ret
    exact ⟨rfl, Bel.refl _⟩
  have hli : ¬ (1048576 : Int) < (C.length : Int) := by omega
  have hfld := run_links_field
  have mk3 := fun n hb h63 W => run_make_row' (P := Try.prog) 25 3 (.int .i64 0) 8 Try.underlying25 (by kernel_rfl) rfl .i64 .i64 n hb h63 W
  go_enter Try.func7, Try.ntmps7
  go_wp2_with fail
  refine (MakeLoops_any _ C _ _ (HC.out _ (Bel.refl _)).1 (HC.out _ (Bel.refl _)).2 hl).mono ?_
  rintro e w1 ⟨cs, rfl, hr, g1⟩
  have hPD := loopsP_ok C (newV C)
  obtain ⟨P, hP⟩ : ∃ P, (loopsP C (newV C)).1 = P := ⟨_, rfl⟩
  rw [hP] at hr hPD
  have hok := hPD.1
  have hn4 := hPD.2
  have hpb := projOk_bd hok
  have HPQ := Lib.hid hP
  have HPO := Lib.hid hok
  have HBP := Lib.hid (bulkProj_ok hok)
  obtain ⟨x1, x2, x3, x4, rfl, u0, u1, u2, u3, u4⟩ := projR_open hr
  obtain ⟨p1, k1, rfl, la, la', -⟩ := sliceR_open u1
  obtain ⟨p2, k2, rfl, ll, ll', -⟩ := sliceR_open u2
  obtain ⟨p3, k3, rfl, -⟩ := sliceR_open u3
  obtain ⟨p4, k4, rfl, -⟩ := sliceR_open u4
  unfold maxLen at la' ll'
  have HPR := Lib.hid (stays_agg projR_good hr)
  have HLK := Lib.hid (show ∀ W, Bel w1 W → linksR (New w w1) W [.slice p2 P.2.2.1.length k2] P.2.2.1 from fun W hW => linksR_good.bel u2 hW (fun b hb => hb.2))
  have HAK := Lib.hid (show ∀ W, Bel w1 W → actsR (New w w1) W [.slice p1 P.2.1.length k1] P.2.1 from fun W hW => actsR_good.bel u1 hW (fun b hb => hb.2))
  have G1 : Bel w w1 := g1
  clear hr u0 u1 u2 u3 u4 hP hPD hok g1
  go_wp2_with fail
  refine (iTopologicalOrder_any _ P (New w w1) _ (HPR.out _ (by (repeat (first | assumption | exact Bel.refl _ | apply Bel.drewN | apply Bel.drew | apply Bel.alloc | refine Bel.trans ?_ (by assumption))))).1 (HPR.out _ (by (repeat (first | assumption | exact Bel.refl _ | apply Bel.drewN | apply Bel.drew | apply Bel.alloc | refine Bel.trans ?_ (by assumption))))).2 HBP.out).mono ?_
  rintro e w2 ⟨v, rfl, hr, g2⟩
  obtain ⟨oq, oc, rfl, lo, lo', -⟩ := sliceR_open hr
  unfold maxLen at lo'
  have HB3 := Lib.hid (show ∀ W, Bel w2 W → W.cell? ⟨w1.heap.size, 0, none⟩ = some (.int .i64 P.1) ∧ W.cell? ⟨w1.heap.size, 1, none⟩ = some (.slice p1 P.2.1.length k1) ∧ W.cell? ⟨w1.heap.size, 2, none⟩ = some (.slice p2 P.2.2.1.length k2) ∧ W.cell? ⟨w1.heap.size, 3, none⟩ = some (.slice p3 P.2.2.2.1.length k3) ∧ W.cell? ⟨w1.heap.size, 4, none⟩ = some (.slice p4 P.2.2.2.2.length k4) from fun W hW => ⟨hW.cell (g2.cell (by simp [go_sem])), hW.cell (g2.cell (by simp [go_sem])), hW.cell (g2.cell (by simp [go_sem])), hW.cell (g2.cell (by simp [go_sem])), hW.cell (g2.cell (by simp [go_sem]))⟩)
  have G2 : Bel w1 w2 := by (repeat (first | assumption | exact Bel.refl _ | apply Bel.drewN | apply Bel.drew | apply Bel.alloc | refine Bel.trans ?_ (by assumption)))
  have HOR := Lib.hid (show ∀ W, Bel w2 W → intsR (New w w2) W [.slice oq (topoV P).length oc] (topoV P) ∧ (∀ b, New w w2 b → b < W.heap.size) from fun W hW => ⟨intsR_good.mono (intsR_good.bel hr hW (fun b hb => hb.2)) (fun b hb => ⟨by have := hb.1; have := G1.size; simp at *; omega, hb.2⟩), fun b hb => Nat.lt_of_lt_of_le hb.2 hW.size⟩)
  obtain ⟨b0, b1, b2, b3, b4⟩ := HB3.out w2 (Bel.refl _)
  have ab0 := fun o => ((Bel.refl w2).alloc o).cell b0
  have ab1 := fun o => ((Bel.refl w2).alloc o).cell b1
  have ab2 := fun o => ((Bel.refl w2).alloc o).cell b2
  have ab3 := fun o => ((Bel.refl w2).alloc o).cell b3
  have ab4 := fun o => ((Bel.refl w2).alloc o).cell b4
  clear hr g2
  cases hb : topoB P
  · have hl0 := order_links HPO.out hb
    have he : topoV P = [] := by unfold topoV; rw [hb]; rfl
    have he' : (topoV P).length = 0 := by rw [he]; rfl
    have hli2 : (0 : Int) < (P.2.2.1.length : Int) := by omega
    rw [he']
    go_wp2_with fail
    refine (iProjectOk_any _ P (New w w1) _ (HPR.out _ (by (repeat (first | assumption | exact Bel.refl _ | apply Bel.drewN | apply Bel.drew | apply Bel.alloc | refine Bel.trans ?_ (by assumption))))).1 (HPR.out _ (by (repeat (first | assumption | exact Bel.refl _ | apply Bel.drewN | apply Bel.drew | apply Bel.alloc | refine Bel.trans ?_ (by assumption))))).2).mono ?_
    rintro e w3 ⟨rfl, g3⟩
    rw [HPO.out]
    have G3 : Bel w w3 := by (repeat (first | assumption | exact Bel.refl _ | apply Bel.drewN | apply Bel.drew | apply Bel.alloc | refine Bel.trans ?_ (by assumption)))
    go_wp2_with fail
    refine (MakeLoops_any _ C _ _ (HC.out _ (by (repeat (first | assumption | exact Bel.refl _ | apply Bel.drewN | apply Bel.drew | apply Bel.alloc | refine Bel.trans ?_ (by assumption))))).1 (HC.out _ (by (repeat (first | assumption | exact Bel.refl _ | apply Bel.drewN | apply Bel.drew | apply Bel.alloc | refine Bel.trans ?_ (by assumption))))).2 hl).mono ?_
    rintro e w4 ⟨cs, rfl, hr, g4⟩
    rw [HPQ.out] at hr
    obtain ⟨x1, x2, x3, x4, rfl, u0, u1, u2, u3, u4⟩ := projR_open hr
    obtain ⟨q2, l2, rfl, -⟩ := sliceR_open u2
    clear hr u0 u1 u2 u3 u4
    go_wp2_with fail
    go_ret
    exact ⟨rfl, by (repeat (first | assumption | exact Bel.refl _ | apply Bel.drewN | apply Bel.drew | apply Bel.alloc | refine Bel.trans ?_ (by assumption)))⟩
  · obtain ⟨hO, hlO⟩ := order_full HPO.out hb
    have hset := hO.set hlO
    rw [hlO] at lo HOR
    rw [hlO]
    have hb1 := hb
    generalize topoV P = O at *
    have HO := Lib.hid hO
    have HSET := Lib.hid hset
    have mk3 := mk3 P.2.1.length (by omega) (by omega)
    have hR0 : (w2.alloc (.cells (madeCells #[.int .i64 0] P.2.1.length) 3)).rowIs w2.heap.size 3 P.2.1.length (fun a => .int .i64 ((atV P.2.1.length O 0).getD a 0)) := (World.rowIs_made _ _ _ _).congr fun a ha => by simp [atV, List.getD_eq_getElem?_getD, ha]
    clear hset hO
    go_wp2_with fail
    go_loopw [43] (fun kk wr => ∃ k : Nat, k ≤ P.2.1.length ∧ kk = .int .i64 k ∧ wr.rowIs w2.heap.size 3 P.2.1.length (fun a => .int .i64 ((atV P.2.1.length O k).getD a 0)) ∧ Bel w2 wr) (fun kk _ => P.2.1.length - (intOf kk).toNat)
    case atStart => exact ⟨0, Nat.zero_le _, rfl, hR0, by (repeat (first | assumption | exact Bel.refl _ | apply Bel.drewN | apply Bel.drew | apply Bel.alloc | refine Bel.trans ?_ (by assumption)))⟩
    case round =>
      clear hR0 b0 b1 b2 b3 b4 ab0 ab1 ab2 ab3 ab4
      obtain ⟨k, hk, rfl, hR, hB⟩ := hrel
      have HR := Lib.hid hR
      by_cases hlt : k < P.2.1.length
      · obtain ⟨ob, ooff, rfl, -, d0, -⟩ := intsR_at (HOR.out wr hB).1 (i := k) (by omega)
        have hin := HO.out.inr _ (ordD_in (show k < O.length by omega))
        obtain ⟨na, hna⟩ : ∃ na : Nat, O.getD k 0 = na := Int.eq_ofNat_of_zero_le hin.1
        have HNA := Lib.hid hna
        rw [hna] at d0 hin
        have hna1 : na < P.2.1.length := by omega
        have hna2 : (na : Int) < (P.2.1.length : Int) := hin.2
        have hna3 : ¬ (P.2.1.length : Int) ≤ (na : Int) := by omega
        have hna4 : ¬ (na : Int) < 0 := by omega
        have hki : (k : Int) < (P.2.1.length : Int) := by omega
        have c1 := hR.cell hna1
        have c2 := hR.frozen na
        have HST := Lib.hid (fun (u : Value) => hR.set na u)
        have HBS := Lib.hid (fun (u : Value) => hB.set (p := ⟨w2.heap.size, na, none⟩) (Nat.le_refl _) u)
        clear hna hR hin
        go_wp2_with fail
        go_roundw
        case rel => exact ⟨k + 1, by omega, by go_num, (HST.out _).congr (fun a ha => by rw [atV_row HNA.out ha]; split <;> simp_all), HBS.out _⟩
        case measure => (simp [intOf] <;> omega)
      · obtain rfl : k = P.2.1.length := by omega
        clear hR
        obtain ⟨b0, b1, b2, b3, b4⟩ := HB3.out wr hB
        go_wp2_with fail
        go_loopw [64] (fun kk wr => ∃ j : Nat, j ≤ P.2.2.1.length ∧ kk = .int .i64 j ∧ wr.rowIs w2.heap.size 3 P.2.1.length (fun a => .int .i64 ((atV P.2.1.length O P.2.1.length).getD a 0)) ∧ Bel w2 wr) (fun kk _ => P.2.2.1.length - (intOf kk).toNat)
        case atStart => exact ⟨0, Nat.zero_le _, rfl, HR.out, hB⟩
        case round =>
          clear HR hB b0 b1 b2 b3 b4
          obtain ⟨j, hj, rfl, hR, hB⟩ := hrel
          have HR := Lib.hid hR
          obtain ⟨b0, b1, b2, b3, b4⟩ := HB3.out wr hB
          clear hR
          by_cases hlt : j < P.2.2.1.length
          · skip
            have hji : (j : Int) < (P.2.2.1.length : Int) := by omega
            obtain ⟨lb, loff, rfl, d0, d1, d2, d3⟩ := link_at (HLK.out wr (G2.trans hB)) hlt
            obtain ⟨⟨fa, e1, hfa⟩, ⟨tb, e2, htb⟩, -⟩ := linkOk_bd (projOk_link HPO.out hlt)
            have HSUC := order_suc HPO.out hlt
            have HPRE := order_pre HPO.out hlt
            have HRCH := order_reach HPO.out hlt
            obtain ⟨G, hG⟩ : ∃ G, fullGapV P (P.2.2.1.getD j zLink) = G := ⟨_, rfl⟩
            have HAF := fun (h : 0 < G) => HO.out.after hlO hlt (by rw [e2]; omega) (by rw [hG]; exact h)
            have HGV := Lib.hid (show linkGapV P (j : Int) (rangeL (P.2.1.getD fa zAct).2.2.length) = G from by
              rw [← hG]
              unfold linkGapV fullGapV
              rw [HPO.out, ← inB_v (j : Int), order_in ⟨by omega, hji⟩, Int.toNat_natCast, e1, Int.toNat_natCast]
              rfl)
            rw [e1, e2, hlO, Int.toNat_natCast, Int.toNat_natCast] at HAF
            rw [e1, e2] at HSUC HPRE HRCH
            have HSUC := Lib.hid HSUC
            have HPRE := Lib.hid HPRE
            have HRCH := Lib.hid HRCH
            have HAF := Lib.hid HAF
            rw [e1] at d0
            rw [e2] at d1
            clear e1 e2 hG
            generalize (P.2.2.1.getD j zLink).2.2.1 = fe at *
            generalize (P.2.2.1.getD j zLink).2.2.2 = lag at *
            have m1 := HR.out.cell hfa
            have m2 := HR.out.cell htb
            obtain ⟨AF, hAF⟩ : ∃ x, (atV P.2.1.length O P.2.1.length).getD fa 0 = x := ⟨_, rfl⟩
            obtain ⟨AT, hAT⟩ : ∃ x, (atV P.2.1.length O P.2.1.length).getD tb 0 = x := ⟨_, rfl⟩
            rw [hAF] at m1
            rw [hAT] at m2
            rw [hAF, hAT] at HAF
            have hml := (projOk_modes HPO.out hfa).2
            obtain ⟨ab, ao, acs, aea, arow, ael⟩ := sliceR_at zAct (HAK.out wr (G2.trans hB)) hfa
            obtain rfl : p1 = some ⟨ab, ao, none⟩ := aea
            obtain ⟨X, hX⟩ : ∃ X, P.2.1.getD fa zAct = X := ⟨_, rfl⟩
            rw [hX] at HGV hml ael
            obtain ⟨ac2, rfl, aq0, aq1, aq2⟩ := actR_open ael
            have HEL := Lib.hid ael
            obtain ⟨am, amk, rfl, aml, aml', -⟩ := sliceR_open aq2
            have ea0 := (arow 0 (by simp)).1
            have ea1 := (arow 1 (by simp)).1
            have ea2 := (arow 2 (by simp)).1
            simp only [List.getElem_cons_zero, List.getElem_cons_succ, Nat.add_zero] at ea0 ea1 ea2
            have hfi : (fa : Int) < (P.2.1.length : Int) := by omega
            have hti : (tb : Int) < (P.2.1.length : Int) := by omega
            have hlx : bulkIntS (rangeL X.2.2.length) ≤ 1048576 := by unfold bulkIntS; rw [rangeL_length]; omega
            have HALL := Lib.hid (show ∀ W, Bel (wr.alloc (.cells #[.int .i64 (fa : Int), .int .i64 (tb : Int), .bool fe, .int .i64 lag] 70)) W → W.cell? ⟨w1.heap.size, 0, none⟩ = some (.int .i64 P.1) ∧ W.cell? ⟨w1.heap.size, 1, none⟩ = some (.slice (some ⟨ab, ao, none⟩) P.2.1.length k1) ∧ W.cell? ⟨w1.heap.size, 2, none⟩ = some (.slice (some ⟨lb, loff, none⟩) P.2.2.1.length k2) ∧ W.cell? ⟨w1.heap.size, 3, none⟩ = some (.slice p3 P.2.2.2.1.length k3) ∧ W.cell? ⟨w1.heap.size, 4, none⟩ = some (.slice p4 P.2.2.2.2.length k4) ∧ W.cell? ⟨wr.heap.size, 0, none⟩ = some (.int .i64 (fa : Int)) ∧ W.cell? ⟨wr.heap.size, 1, none⟩ = some (.int .i64 (tb : Int)) ∧ W.cell? ⟨wr.heap.size, 2, none⟩ = some (.bool fe) ∧ W.cell? ⟨wr.heap.size, 3, none⟩ = some (.int .i64 lag) ∧ W.cell? ⟨ab, ao + fa * 3, none⟩ = some (.string X.1) ∧ W.cell? ⟨ab, ao + fa * 3 + 1, none⟩ = some (.int .i64 X.2.1) ∧ W.cell? ⟨ab, ao + fa * 3 + 2, none⟩ = some (.slice am X.2.2.length amk) ∧ W.cell? ⟨w2.heap.size, fa, none⟩ = some (.int .i64 AF) ∧ W.cell? ⟨w2.heap.size, tb, none⟩ = some (.int .i64 AT) from fun W hW => by
              have hWr : Bel wr W := ((Bel.refl wr).alloc _).trans hW
              exact ⟨hWr.cell b0, hWr.cell b1, hWr.cell b2, hWr.cell b3, hWr.cell b4, hW.cell (by simp [go_sem]), hW.cell (by simp [go_sem]), hW.cell (by simp [go_sem]), hW.cell (by simp [go_sem]), hWr.cell ea0, hWr.cell ea1, hWr.cell ea2, hWr.cell m1, hWr.cell m2⟩)
            have HBW := Lib.hid (show Bel w1 wr from G2.trans hB)
            have HSW := Lib.hid (fun b (hb : New w w1 b) => Nat.lt_of_lt_of_le hb.2 HBW.out.size)
            clear hX arow ael aq0 aq1 aq2 hAF hAT m1 m2 ea0 ea1 ea2
            by_cases hg : (0 : Int) < G
            rotate_left
            · have hgd : decide ((0 : Int) < G) = false := decide_eq_false hg
              go_wp2_with fail
              refine wp_region_held_drew (S := (fun W => W.cell? ⟨w1.heap.size, 0, none⟩ = some (.int .i64 P.1) ∧ W.cell? ⟨w1.heap.size, 1, none⟩ = some (.slice (some ⟨ab, ao, none⟩) P.2.1.length k1) ∧ W.cell? ⟨w1.heap.size, 2, none⟩ = some (.slice (some ⟨lb, loff, none⟩) P.2.2.1.length k2) ∧ W.cell? ⟨w1.heap.size, 3, none⟩ = some (.slice p3 P.2.2.2.1.length k3) ∧ W.cell? ⟨w1.heap.size, 4, none⟩ = some (.slice p4 P.2.2.2.2.length k4) ∧ W.cell? ⟨wr.heap.size, 0, none⟩ = some (.int .i64 (fa : Int)) ∧ W.cell? ⟨wr.heap.size, 1, none⟩ = some (.int .i64 (tb : Int)) ∧ W.cell? ⟨wr.heap.size, 2, none⟩ = some (.bool fe) ∧ W.cell? ⟨wr.heap.size, 3, none⟩ = some (.int .i64 lag) ∧ W.cell? ⟨ab, ao + fa * 3, none⟩ = some (.string X.1) ∧ W.cell? ⟨ab, ao + fa * 3 + 1, none⟩ = some (.int .i64 X.2.1) ∧ W.cell? ⟨ab, ao + fa * 3 + 2, none⟩ = some (.slice am X.2.2.length amk) ∧ W.cell? ⟨w2.heap.size, fa, none⟩ = some (.int .i64 AF) ∧ W.cell? ⟨w2.heap.size, tb, none⟩ = some (.int .i64 AT))) (by kernel_rfl) ?_ (fun hHeld => ?_)
              · ((try dsimp only); (first | (with_reducible exact HALL.out _ (by (repeat (first | assumption | exact Bel.refl _ | apply Bel.drewN | apply Bel.drew | apply Bel.alloc | refine Bel.trans ?_ (by assumption))))) | exact HALL.out _ (by (repeat (first | assumption | exact Bel.refl _ | apply Bel.drewN | apply Bel.drew | apply Bel.alloc | refine Bel.trans ?_ (by assumption))))))
              refine wpAnyH_take (i := 0) (v := ?_) rfl (by kernel_rfl) (by kernel_rfl) (by kernel_rfl) (fun _ _ _ h => h) (Or.inl ⟨by rfl, ?_⟩) (by assumption) ?_
              rotate_left
              · (intro w hSw; (try dsimp only at hSw); go_simp <;> with_reducible rfl)
              try walk_nrm
              refine wpAnyH_take (i := 1) (v := ?_) rfl (by kernel_rfl) (by kernel_rfl) (by kernel_rfl) (fun _ _ _ h => h) (Or.inl ⟨by rfl, ?_⟩) (by assumption) ?_
              rotate_left
              · (intro w hSw; (try dsimp only at hSw); go_simp <;> with_reducible rfl)
              try walk_nrm
              refine wpAnyH_take (i := 2) (v := ?_) rfl (by kernel_rfl) (by kernel_rfl) (by kernel_rfl) (fun _ _ _ h => h) (Or.inl ⟨by rfl, ?_⟩) (by assumption) ?_
              rotate_left
              · (intro w hSw; (try dsimp only at hSw); go_simp <;> with_reducible rfl)
              try walk_nrm
              refine wpAnyH_take (i := 3) (v := ?_) rfl (by kernel_rfl) (by kernel_rfl) (by kernel_rfl) (fun _ _ _ h => h) (Or.inl ⟨by rfl, ?_⟩) (by assumption) ?_
              rotate_left
              · (intro w hSw; (try dsimp only at hSw); go_simp <;> with_reducible rfl)
              try walk_nrm
              refine wpAnyH_take (i := 4) (v := ?_) rfl (by kernel_rfl) (by kernel_rfl) (by kernel_rfl) (fun _ _ _ h => h) (Or.inl ⟨by rfl, ?_⟩) (by assumption) ?_
              rotate_left
              · (intro w hSw; (try dsimp only at hSw); go_simp <;> with_reducible rfl)
              try walk_nrm
              refine wpAnyH_take (i := 5) (v := ?_) rfl (by kernel_rfl) (by kernel_rfl) (by kernel_rfl) (fun _ _ _ h => h) (Or.inl ⟨by rfl, ?_⟩) (by assumption) ?_
              rotate_left
              · (intro w hSw; (try dsimp only at hSw); go_simp <;> with_reducible rfl)
              try walk_nrm
              refine wpAnyH_take (i := 6) (v := ?_) rfl (by kernel_rfl) (by kernel_rfl) (by kernel_rfl) (fun _ _ _ h => h) (Or.inl ⟨by rfl, ?_⟩) (by assumption) ?_
              rotate_left
              · (intro w hSw; (try dsimp only at hSw); go_simp <;> with_reducible rfl)
              try walk_nrm
              refine wpAnyH_take (i := 7) (v := ?_) rfl (by kernel_rfl) (by kernel_rfl) (by kernel_rfl) (fun _ _ _ h => h) (Or.inl ⟨by rfl, ?_⟩) (by assumption) ?_
              rotate_left
              · (intro w hSw; (try dsimp only at hSw); go_simp <;> with_reducible rfl)
              try walk_nrm
              refine wpAnyH_ready (rs := [8]) (by kernel_rfl) (by simp) ?_
              refine AllReadyH.cons rfl (fun K hK => ?_) AllReadyH.nil
              · go_simp
                (go_at_call 37; (with_reducible refine (iModeIndexes_any _ X (New w w1) _ (aggR_mk (actR_good.bel HEL.out (by (repeat (first | assumption | exact Bel.refl _ | apply Bel.drewN | apply Bel.drew | apply Bel.alloc | refine Bel.trans ?_ (by assumption)))) HSW.out)) (by omega)).mono ?_); rintro e wt ⟨vm, rfl, hr, gt⟩; have HRG := Lib.hid (stays_one intsR_good hr); obtain ⟨rp, rk, rfl, -⟩ := sliceR_open hr; clear hr)
                try go_wp2_with fail
                refine hK.out _ _ ?_ (fun hHeld => ?_)
                · ((try dsimp only); (first | (with_reducible exact HALL.out _ (by (repeat (first | assumption | exact Bel.refl _ | apply Bel.drewN | apply Bel.drew | apply Bel.alloc | refine Bel.trans ?_ (by assumption))))) | exact HALL.out _ (by (repeat (first | assumption | exact Bel.refl _ | apply Bel.drewN | apply Bel.drew | apply Bel.alloc | refine Bel.trans ?_ (by assumption))))))
                clear hK K
                try walk_nrm
                refine wpAnyH_ready (rs := [9]) (by kernel_rfl) (by simp) ?_
                refine AllReadyH.cons rfl (fun K hK => ?_) AllReadyH.nil
                · go_simp
                  (go_at_call 36; (with_reducible refine (iLinkGap_any _ P (New w w1) _ _ (rangeL X.2.2.length) _ _ (HPR.out _ (by (repeat (first | assumption | exact Bel.refl _ | apply Bel.drewN | apply Bel.drew | apply Bel.alloc | refine Bel.trans ?_ (by assumption))))).1 (HPR.out _ (by (repeat (first | assumption | exact Bel.refl _ | apply Bel.drewN | apply Bel.drew | apply Bel.alloc | refine Bel.trans ?_ (by assumption))))).2 HBP.out (HRG.out _ (by (repeat (first | assumption | exact Bel.refl _ | apply Bel.drewN | apply Bel.drew | apply Bel.alloc | refine Bel.trans ?_ (by assumption))))).1 (HRG.out _ (by (repeat (first | assumption | exact Bel.refl _ | apply Bel.drewN | apply Bel.drew | apply Bel.alloc | refine Bel.trans ?_ (by assumption))))).2 hlx).mono ?_); rintro e wt ⟨rfl, gt⟩; rw [HGV.out])
                  try go_wp2_with fail
                  refine hK.out _ _ ?_ (fun hHeld => ?_)
                  · ((try dsimp only); (first | (with_reducible exact HALL.out _ (by (repeat (first | assumption | exact Bel.refl _ | apply Bel.drewN | apply Bel.drew | apply Bel.alloc | refine Bel.trans ?_ (by assumption))))) | exact HALL.out _ (by (repeat (first | assumption | exact Bel.refl _ | apply Bel.drewN | apply Bel.drew | apply Bel.alloc | refine Bel.trans ?_ (by assumption))))))
                  clear hK K
                  try walk_nrm
                  refine wpAnyH_take (i := 10) (v := ?_) rfl (by kernel_rfl) (by kernel_rfl) (by kernel_rfl) (fun _ _ _ h => h) (Or.inl ⟨by rfl, ?_⟩) (by assumption) ?_
                  rotate_left
                  · (intro w hSw; (try dsimp only at hSw); go_simp <;> with_reducible rfl)
                  try walk_nrm
                  refine wpAnyH_take (i := 11) (v := ?_) rfl (by kernel_rfl) (by kernel_rfl) (by kernel_rfl) (fun _ _ _ h => h) (Or.inl ⟨by rfl, ?_⟩) (by assumption) ?_
                  rotate_left
                  · (intro w hSw; (try dsimp only at hSw); go_simp <;> with_reducible rfl)
                  try walk_nrm
                  refine wpAnyH_take (i := 12) (v := undef) rfl (by kernel_rfl) (by kernel_rfl) (by kernel_rfl) (fun _ _ _ h => h) (Or.inr ⟨by rfl, rfl⟩) (by assumption) ?_
                  try walk_nrm
                  refine wpAnyH_take (i := 13) (v := undef) rfl (by kernel_rfl) (by kernel_rfl) (by kernel_rfl) (fun _ _ _ h => h) (Or.inr ⟨by rfl, rfl⟩) (by assumption) ?_
                  try walk_nrm
                  refine wpAnyH_take (i := 14) (v := undef) rfl (by kernel_rfl) (by kernel_rfl) (by kernel_rfl) (fun _ _ _ h => h) (Or.inr ⟨by rfl, rfl⟩) (by assumption) ?_
                  try walk_nrm
                  refine wpAnyH_take (i := 15) (v := undef) rfl (by kernel_rfl) (by kernel_rfl) (by kernel_rfl) (fun _ _ _ h => h) (Or.inr ⟨by rfl, rfl⟩) (by assumption) ?_
                  try walk_nrm
                  refine wpAnyH_take (i := 16) (v := undef) rfl (by kernel_rfl) (by kernel_rfl) (by kernel_rfl) (fun _ _ _ h => h) (Or.inr ⟨by rfl, rfl⟩) (by assumption) ?_
                  try walk_nrm
                  refine wpAnyH_take (i := 17) (v := undef) rfl (by kernel_rfl) (by kernel_rfl) (by kernel_rfl) (fun _ _ _ h => h) (Or.inr ⟨by rfl, rfl⟩) (by assumption) ?_
                  try walk_nrm
                  refine wpAnyH_take (i := 18) (v := undef) rfl (by kernel_rfl) (by kernel_rfl) (by kernel_rfl) (fun _ _ _ h => h) (Or.inr ⟨by rfl, rfl⟩) (by assumption) ?_
                  try walk_nrm
                  refine wpAnyH_take (i := 19) (v := undef) rfl (by kernel_rfl) (by kernel_rfl) (by kernel_rfl) (fun _ _ _ h => h) (Or.inr ⟨by rfl, rfl⟩) (by assumption) ?_
                  try walk_nrm
                  refine wpAnyH_take (i := 20) (v := undef) rfl (by kernel_rfl) (by kernel_rfl) (by kernel_rfl) (fun _ _ _ h => h) (Or.inr ⟨by rfl, rfl⟩) (by assumption) ?_
                  try walk_nrm
                  refine wpAnyH_take (i := 21) (v := undef) rfl (by kernel_rfl) (by kernel_rfl) (by kernel_rfl) (fun _ _ _ h => h) (Or.inr ⟨by rfl, rfl⟩) (by assumption) ?_
                  try walk_nrm
                  refine wpAnyH_take (i := 22) (v := undef) rfl (by kernel_rfl) (by kernel_rfl) (by kernel_rfl) (fun _ _ _ h => h) (Or.inr ⟨by rfl, rfl⟩) (by assumption) ?_
                  try walk_nrm
                  refine wpAnyH_take (i := 23) (v := ?_) rfl (by kernel_rfl) (by kernel_rfl) (by kernel_rfl) (fun _ _ _ h => h) (Or.inl ⟨by rfl, ?_⟩) (by assumption) ?_
                  rotate_left
                  · (intro w hSw; (try dsimp only at hSw); go_simp <;> with_reducible rfl)
                  try walk_nrm
                  refine wpAnyH_done (by kernel_rfl) ?_ _
                  go_wp2_with fail
                  go_region_held3 (fun W => W.cell? ⟨w1.heap.size, 0, none⟩ = some (.int .i64 P.1) ∧ W.cell? ⟨w1.heap.size, 1, none⟩ = some (.slice (some ⟨ab, ao, none⟩) P.2.1.length k1) ∧ W.cell? ⟨w1.heap.size, 2, none⟩ = some (.slice (some ⟨lb, loff, none⟩) P.2.2.1.length k2) ∧ W.cell? ⟨w1.heap.size, 3, none⟩ = some (.slice p3 P.2.2.2.1.length k3) ∧ W.cell? ⟨w1.heap.size, 4, none⟩ = some (.slice p4 P.2.2.2.2.length k4) ∧ W.cell? ⟨wr.heap.size, 0, none⟩ = some (.int .i64 (fa : Int)) ∧ W.cell? ⟨wr.heap.size, 1, none⟩ = some (.int .i64 (tb : Int)) ∧ W.cell? ⟨wr.heap.size, 2, none⟩ = some (.bool fe) ∧ W.cell? ⟨wr.heap.size, 3, none⟩ = some (.int .i64 lag) ∧ W.cell? ⟨ab, ao + fa * 3, none⟩ = some (.string X.1) ∧ W.cell? ⟨ab, ao + fa * 3 + 1, none⟩ = some (.int .i64 X.2.1) ∧ W.cell? ⟨ab, ao + fa * 3 + 2, none⟩ = some (.slice am X.2.2.length amk) ∧ W.cell? ⟨w2.heap.size, fa, none⟩ = some (.int .i64 AF) ∧ W.cell? ⟨w2.heap.size, tb, none⟩ = some (.int .i64 AT)) (first | (with_reducible exact HALL.out _ (by (repeat (first | assumption | exact Bel.refl _ | apply Bel.drewN | apply Bel.drew | apply Bel.alloc | refine Bel.trans ?_ (by assumption))))) | exact HALL.out _ (by (repeat (first | assumption | exact Bel.refl _ | apply Bel.drewN | apply Bel.drew | apply Bel.alloc | refine Bel.trans ?_ (by assumption))))) (first | (go_at_call 41; (with_reducible refine (iSuccessors_any _ P (New w w1) _ _ (HPR.out _ (by (repeat (first | assumption | exact Bel.refl _ | apply Bel.drewN | apply Bel.drew | apply Bel.alloc | refine Bel.trans ?_ (by assumption))))).1 (HPR.out _ (by (repeat (first | assumption | exact Bel.refl _ | apply Bel.drewN | apply Bel.drew | apply Bel.alloc | refine Bel.trans ?_ (by assumption))))).2 HBP.out).mono ?_); rintro e wt ⟨vm, rfl, hr, gt⟩; have HS1 := Lib.hid (stays_one intsR_good hr); obtain ⟨sp, sk, rfl, -⟩ := sliceR_open hr; clear hr) | (go_at_call 40; (with_reducible refine (iSetHas_any _ (sucV P (fa : Int)) (tb : Int) _ _ (HS1.out _ (by (repeat (first | assumption | exact Bel.refl _ | apply Bel.drewN | apply Bel.drew | apply Bel.alloc | refine Bel.trans ?_ (by assumption))))).1).mono ?_); rintro e wt ⟨rfl, rfl⟩; rw [HSUC.out]) | (go_at_call 42; (with_reducible refine (iPredecessors_any _ P (New w w1) _ _ (HPR.out _ (by (repeat (first | assumption | exact Bel.refl _ | apply Bel.drewN | apply Bel.drew | apply Bel.alloc | refine Bel.trans ?_ (by assumption))))).1 (HPR.out _ (by (repeat (first | assumption | exact Bel.refl _ | apply Bel.drewN | apply Bel.drew | apply Bel.alloc | refine Bel.trans ?_ (by assumption))))).2 HBP.out).mono ?_); rintro e wt ⟨vm, rfl, hr, gt⟩; have HS2 := Lib.hid (stays_one intsR_good hr); obtain ⟨tp, tk, rfl, -⟩ := sliceR_open hr; clear hr) | (go_at_call 40; (with_reducible refine (iSetHas_any _ (preV P (tb : Int)) (fa : Int) _ _ (HS2.out _ (by (repeat (first | assumption | exact Bel.refl _ | apply Bel.drewN | apply Bel.drew | apply Bel.alloc | refine Bel.trans ?_ (by assumption))))).1).mono ?_); rintro e wt ⟨rfl, rfl⟩; rw [HPRE.out]) | (go_at_call 13; (with_reducible refine (iIsReachable_any _ P (New w w1) _ _ _ (HPR.out _ (by (repeat (first | assumption | exact Bel.refl _ | apply Bel.drewN | apply Bel.drew | apply Bel.alloc | refine Bel.trans ?_ (by assumption))))).1 (HPR.out _ (by (repeat (first | assumption | exact Bel.refl _ | apply Bel.drewN | apply Bel.drew | apply Bel.alloc | refine Bel.trans ?_ (by assumption))))).2 HBP.out).mono ?_); rintro e wt ⟨rfl, gt⟩; rw [HRCH.out]))
                  go_wp2_with fail
                  go_roundw
                  case rel => exact ⟨j + 1, by omega, by go_num, HR.out.of_block (Bel.block (by (repeat (first | assumption | exact Bel.refl _ | apply Bel.drewN | apply Bel.drew | apply Bel.alloc | refine Bel.trans ?_ (by assumption)))) HR.out.lt), by (repeat (first | assumption | exact Bel.refl _ | apply Bel.drewN | apply Bel.drew | apply Bel.alloc | refine Bel.trans ?_ (by assumption)))⟩
                  case measure => (simp [intOf] <;> omega)
            · have hle : ¬ AT < AF := by have := HAF.out hg; omega
              go_wp2_with fail
              go_region_held3 (fun W => W.cell? ⟨w1.heap.size, 0, none⟩ = some (.int .i64 P.1) ∧ W.cell? ⟨w1.heap.size, 1, none⟩ = some (.slice (some ⟨ab, ao, none⟩) P.2.1.length k1) ∧ W.cell? ⟨w1.heap.size, 2, none⟩ = some (.slice (some ⟨lb, loff, none⟩) P.2.2.1.length k2) ∧ W.cell? ⟨w1.heap.size, 3, none⟩ = some (.slice p3 P.2.2.2.1.length k3) ∧ W.cell? ⟨w1.heap.size, 4, none⟩ = some (.slice p4 P.2.2.2.2.length k4) ∧ W.cell? ⟨wr.heap.size, 0, none⟩ = some (.int .i64 (fa : Int)) ∧ W.cell? ⟨wr.heap.size, 1, none⟩ = some (.int .i64 (tb : Int)) ∧ W.cell? ⟨wr.heap.size, 2, none⟩ = some (.bool fe) ∧ W.cell? ⟨wr.heap.size, 3, none⟩ = some (.int .i64 lag) ∧ W.cell? ⟨ab, ao + fa * 3, none⟩ = some (.string X.1) ∧ W.cell? ⟨ab, ao + fa * 3 + 1, none⟩ = some (.int .i64 X.2.1) ∧ W.cell? ⟨ab, ao + fa * 3 + 2, none⟩ = some (.slice am X.2.2.length amk) ∧ W.cell? ⟨w2.heap.size, fa, none⟩ = some (.int .i64 AF) ∧ W.cell? ⟨w2.heap.size, tb, none⟩ = some (.int .i64 AT)) (first | (with_reducible exact HALL.out _ (by (repeat (first | assumption | exact Bel.refl _ | apply Bel.drewN | apply Bel.drew | apply Bel.alloc | refine Bel.trans ?_ (by assumption))))) | exact HALL.out _ (by (repeat (first | assumption | exact Bel.refl _ | apply Bel.drewN | apply Bel.drew | apply Bel.alloc | refine Bel.trans ?_ (by assumption))))) (first | (go_at_call 37; (with_reducible refine (iModeIndexes_any _ X (New w w1) _ (aggR_mk (actR_good.bel HEL.out (by (repeat (first | assumption | exact Bel.refl _ | apply Bel.drewN | apply Bel.drew | apply Bel.alloc | refine Bel.trans ?_ (by assumption)))) HSW.out)) (by omega)).mono ?_); rintro e wt ⟨vm, rfl, hr, gt⟩; have HRG := Lib.hid (stays_one intsR_good hr); obtain ⟨rp, rk, rfl, -⟩ := sliceR_open hr; clear hr) | (go_at_call 36; (with_reducible refine (iLinkGap_any _ P (New w w1) _ _ (rangeL X.2.2.length) _ _ (HPR.out _ (by (repeat (first | assumption | exact Bel.refl _ | apply Bel.drewN | apply Bel.drew | apply Bel.alloc | refine Bel.trans ?_ (by assumption))))).1 (HPR.out _ (by (repeat (first | assumption | exact Bel.refl _ | apply Bel.drewN | apply Bel.drew | apply Bel.alloc | refine Bel.trans ?_ (by assumption))))).2 HBP.out (HRG.out _ (by (repeat (first | assumption | exact Bel.refl _ | apply Bel.drewN | apply Bel.drew | apply Bel.alloc | refine Bel.trans ?_ (by assumption))))).1 (HRG.out _ (by (repeat (first | assumption | exact Bel.refl _ | apply Bel.drewN | apply Bel.drew | apply Bel.alloc | refine Bel.trans ?_ (by assumption))))).2 hlx).mono ?_); rintro e wt ⟨rfl, gt⟩; rw [HGV.out]))
              go_wp2_with fail
              go_region_held3 (fun W => W.cell? ⟨w1.heap.size, 0, none⟩ = some (.int .i64 P.1) ∧ W.cell? ⟨w1.heap.size, 1, none⟩ = some (.slice (some ⟨ab, ao, none⟩) P.2.1.length k1) ∧ W.cell? ⟨w1.heap.size, 2, none⟩ = some (.slice (some ⟨lb, loff, none⟩) P.2.2.1.length k2) ∧ W.cell? ⟨w1.heap.size, 3, none⟩ = some (.slice p3 P.2.2.2.1.length k3) ∧ W.cell? ⟨w1.heap.size, 4, none⟩ = some (.slice p4 P.2.2.2.2.length k4) ∧ W.cell? ⟨wr.heap.size, 0, none⟩ = some (.int .i64 (fa : Int)) ∧ W.cell? ⟨wr.heap.size, 1, none⟩ = some (.int .i64 (tb : Int)) ∧ W.cell? ⟨wr.heap.size, 2, none⟩ = some (.bool fe) ∧ W.cell? ⟨wr.heap.size, 3, none⟩ = some (.int .i64 lag) ∧ W.cell? ⟨ab, ao + fa * 3, none⟩ = some (.string X.1) ∧ W.cell? ⟨ab, ao + fa * 3 + 1, none⟩ = some (.int .i64 X.2.1) ∧ W.cell? ⟨ab, ao + fa * 3 + 2, none⟩ = some (.slice am X.2.2.length amk) ∧ W.cell? ⟨w2.heap.size, fa, none⟩ = some (.int .i64 AF) ∧ W.cell? ⟨w2.heap.size, tb, none⟩ = some (.int .i64 AT)) (first | (with_reducible exact HALL.out _ (by (repeat (first | assumption | exact Bel.refl _ | apply Bel.drewN | apply Bel.drew | apply Bel.alloc | refine Bel.trans ?_ (by assumption))))) | exact HALL.out _ (by (repeat (first | assumption | exact Bel.refl _ | apply Bel.drewN | apply Bel.drew | apply Bel.alloc | refine Bel.trans ?_ (by assumption))))) (first | (go_at_call 41; (with_reducible refine (iSuccessors_any _ P (New w w1) _ _ (HPR.out _ (by (repeat (first | assumption | exact Bel.refl _ | apply Bel.drewN | apply Bel.drew | apply Bel.alloc | refine Bel.trans ?_ (by assumption))))).1 (HPR.out _ (by (repeat (first | assumption | exact Bel.refl _ | apply Bel.drewN | apply Bel.drew | apply Bel.alloc | refine Bel.trans ?_ (by assumption))))).2 HBP.out).mono ?_); rintro e wt ⟨vm, rfl, hr, gt⟩; have HS1 := Lib.hid (stays_one intsR_good hr); obtain ⟨sp, sk, rfl, -⟩ := sliceR_open hr; clear hr) | (go_at_call 40; (with_reducible refine (iSetHas_any _ (sucV P (fa : Int)) (tb : Int) _ _ (HS1.out _ (by (repeat (first | assumption | exact Bel.refl _ | apply Bel.drewN | apply Bel.drew | apply Bel.alloc | refine Bel.trans ?_ (by assumption))))).1).mono ?_); rintro e wt ⟨rfl, rfl⟩; rw [HSUC.out]) | (go_at_call 42; (with_reducible refine (iPredecessors_any _ P (New w w1) _ _ (HPR.out _ (by (repeat (first | assumption | exact Bel.refl _ | apply Bel.drewN | apply Bel.drew | apply Bel.alloc | refine Bel.trans ?_ (by assumption))))).1 (HPR.out _ (by (repeat (first | assumption | exact Bel.refl _ | apply Bel.drewN | apply Bel.drew | apply Bel.alloc | refine Bel.trans ?_ (by assumption))))).2 HBP.out).mono ?_); rintro e wt ⟨vm, rfl, hr, gt⟩; have HS2 := Lib.hid (stays_one intsR_good hr); obtain ⟨tp, tk, rfl, -⟩ := sliceR_open hr; clear hr) | (go_at_call 40; (with_reducible refine (iSetHas_any _ (preV P (tb : Int)) (fa : Int) _ _ (HS2.out _ (by (repeat (first | assumption | exact Bel.refl _ | apply Bel.drewN | apply Bel.drew | apply Bel.alloc | refine Bel.trans ?_ (by assumption))))).1).mono ?_); rintro e wt ⟨rfl, rfl⟩; rw [HPRE.out]) | (go_at_call 13; (with_reducible refine (iIsReachable_any _ P (New w w1) _ _ _ (HPR.out _ (by (repeat (first | assumption | exact Bel.refl _ | apply Bel.drewN | apply Bel.drew | apply Bel.alloc | refine Bel.trans ?_ (by assumption))))).1 (HPR.out _ (by (repeat (first | assumption | exact Bel.refl _ | apply Bel.drewN | apply Bel.drew | apply Bel.alloc | refine Bel.trans ?_ (by assumption))))).2 HBP.out).mono ?_); rintro e wt ⟨rfl, gt⟩; rw [HRCH.out]))
              go_wp2_with fail
              go_roundw
              case rel => exact ⟨j + 1, by omega, by go_num, HR.out.of_block (Bel.block (by (repeat (first | assumption | exact Bel.refl _ | apply Bel.drewN | apply Bel.drew | apply Bel.alloc | refine Bel.trans ?_ (by assumption)))) HR.out.lt), by (repeat (first | assumption | exact Bel.refl _ | apply Bel.drewN | apply Bel.drew | apply Bel.alloc | refine Bel.trans ?_ (by assumption)))⟩
              case measure => (simp [intOf] <;> omega)
          · obtain rfl : j = P.2.2.1.length := by omega
            obtain ⟨ob, ooff, rfl, -, d0, -⟩ := intsR_at (HOR.out wr hB).1 (i := 0) (by omega)
            have HSO := fun W (hW : Bel w2 W) => iSetOf_any ⟨ob, ooff, none⟩ oc O (New w w2) W (by rw [hlO]; exact (HOR.out W hW).1) (HOR.out W hW).2 (by omega)
            rw [hlO, HSET.out] at HSO
            have HSO := Lib.hid HSO
            have hrt := order_roots HPO.out
            have hrti : ((rootV P).length : Int) ≤ (P.2.1.length : Int) := by omega
            clear d0
            go_wp2_with fail
            refine (HSO.out _ (by (repeat (first | assumption | exact Bel.refl _ | apply Bel.drewN | apply Bel.drew | apply Bel.alloc | refine Bel.trans ?_ (by assumption))))).mono ?_
            rintro e w5 ⟨sb, so, sc, rfl, hs, g5⟩
            have HS5 := Lib.hid (fun W (hW : Bel w5 W) => intsR_good.bel hs hW (fun b hb => by rcases hb with hb | hb; exact hb.elim; exact hb.2))
            clear hs
            go_wp2_with fail
            refine (iIntRange_any P.2.1.length _ (by omega)).mono ?_
            rintro e w6 ⟨v6, rfl, hr6, g6⟩
            have HR6 := Lib.hid (stays_one intsR_good hr6)
            obtain ⟨q6, c6, rfl, -⟩ := sliceR_open hr6
            clear hr6
            go_wp2_with fail
            refine (iSetEqual_any _ _ (rangeL P.2.1.length) (rangeL P.2.1.length) _ _ _ (HS5.out _ (by (repeat (first | assumption | exact Bel.refl _ | apply Bel.drewN | apply Bel.drew | apply Bel.alloc | refine Bel.trans ?_ (by assumption))))) (HR6.out _ (by (repeat (first | assumption | exact Bel.refl _ | apply Bel.drewN | apply Bel.drew | apply Bel.alloc | refine Bel.trans ?_ (by assumption))))).1).mono ?_
            rintro e w7 ⟨rfl, g7⟩
            rw [decide_eq_true rfl]
            have hb2 := (HB3.out w7 (by (repeat (first | assumption | exact Bel.refl _ | apply Bel.drewN | apply Bel.drew | apply Bel.alloc | refine Bel.trans ?_ (by assumption)))))
            obtain ⟨b0, b1, b2, b3, b4⟩ := hb2
            go_wp2_with fail
            refine (iRoots_any _ P (New w w1) _ (HPR.out _ (by (repeat (first | assumption | exact Bel.refl _ | apply Bel.drewN | apply Bel.drew | apply Bel.alloc | refine Bel.trans ?_ (by assumption))))).1 (HPR.out _ (by (repeat (first | assumption | exact Bel.refl _ | apply Bel.drewN | apply Bel.drew | apply Bel.alloc | refine Bel.trans ?_ (by assumption))))).2 HBP.out).mono ?_
            rintro e w8 ⟨v8, rfl, hr8, g8⟩
            obtain ⟨q8, c8, rfl, -⟩ := sliceR_open hr8
            clear hr8
            go_wp2_with fail
            go_ret
            exact ⟨rfl, by (repeat (first | assumption | exact Bel.refl _ | apply Bel.drewN | apply Bel.drew | apply Bel.alloc | refine Bel.trans ?_ (by assumption)))⟩

end Go.Proofs.Ytiaamddhocdhaaa
end

/- FnOrder -/
section
namespace Go.Proofs.Ytiaamddhocdhaaa.fnOrder
open Go.ChangeShapes Go.WideShapes Go.ChangeAt Go.RowKit
open Go.ChangeMaps (open_string shut_string)
set_option linter.unusedVariables false

theorem agg_of {P : Program} {w : World} {r : Reach} {b : Nat} {t : TypeId} {fs : Array Field} {v : Value} (ht : P.underlying t = some (.struct fs)) (h : Value.okWide P w r b t v) : ∃ cs, v = .agg cs := by
  unfold Value.okWide at h
  rw [ht] at h
  obtain ⟨cs, h1, _⟩ := h
  exact ⟨cs, h1⟩

set_option maxRecDepth 100000 in
theorem lifted (os : Os) (started : os.Started) (H : Type) (enc : TypeId × Value → H) :
    ReturnsInHanded {} Try.checked os 7 .any (Rows.fnOrderSpec.pre6 enc Try.prog Try.f7 Rows.fnOrderRow.domain false) (Rows.fnOrderSpec.post enc Try.prog Try.f7 false true false false) := by
  refine returnsInHanded_of_change (C := Try.checked) ownKnobNone started (by kernel_rfl) Try.func7
    (ChangeSpec.witness6 (enc := enc) (C := Try.checked) false ⟨#[], #[.slice none 0 0], []⟩ 8 (by kernel_rfl) (by kernel_rfl) (by kernel_rfl) (by kernel_rfl)) ?_
  intro W base args ds gs before hval0 hW hcnd _
  have hval : ∀ (j : Nat) t v, Try.f7.params[j]? = some t → args[j]? = some v → Value.okWide Try.prog W .any base t v := hval0
  have hW' := hW
  obtain ⟨p, q, hA0, hV, rfl, hfz, hnd⟩ := hW
  have hA : DataW.TrodAll enc Try.prog W 0 (fun _ => true) true Try.f7.params.toList args.toList ds p := hA0
  rw [Try.params7] at hA hval
  obtain ⟨v0, vs0, d0, ds0, p0, q0, hargs, rfl, rfl, h0, r0⟩ := trodAll_cons hA
  obtain ⟨rfl, rfl, rfl⟩ := trodAll_nil r0
  obtain rfl : args = #[v0] := by cases args; simp_all
  obtain ⟨rfl, rfl⟩ := trodVars_none hV
  have lt0 : ∀ x ∈ p0, x.block < W.heap.size := by obtain ⟨m, hm⟩ := h0; exact DataW.trod_lt m _ _ _ hm
  have fz0 : W.noneFrozen p0 := noneFrozen_sub hfz (by intro x hx; simp [hx])
  obtain ⟨x0, g0⟩ := (opBytes (enc := enc) W).one h0 fz0 (by obtain ⟨_, _, _, e⟩ := okWide_slice Try.underlying38 (hval 0 38 v0 rfl rfl); rw [e]; rfl)
  clear hA0 hval0
  refine (fnOrder_walk v0 x0 W g0).mono fun e W' ⟨he, bel⟩ => ?_
  subst he
  exact ⟨_, rfl, _, _, _, [], _, [], hW', trodAll_mk1 (shut_bool Try.underlying4 _), (trodAll_cons_mk (Below.trod laidOutAll (by kernel_rfl) (of_decide_eq_true (by kernel_rfl)) h0 bel lt0) trodAll_mk0), rfl, bel.frame _, fun h => by cases h⟩

theorem proved : Rows.FnOrderSaid :=
  OpenClaim.holds_of_wide 7 Try.f7 rfl rfl rfl rfl rfl rfl rfl ⟨rfl, rfl, rfl, rfl, rfl⟩ rfl rfl rfl rfl rfl (by kernel_rfl) Try.func7 (by kernel_rfl)
    (of_decide_eq_true (by kernel_rfl)) (by unfold Func.isWrapper; first | (rw [if_pos (by decide +kernel)]; kernel_rfl) | (rw [if_neg (by decide +kernel)]; exact ⟨rfl, rfl⟩))
    (fun os started H enc _ => lifted os started H enc)
#print axioms proved
end Go.Proofs.Ytiaamddhocdhaaa.fnOrder
end
