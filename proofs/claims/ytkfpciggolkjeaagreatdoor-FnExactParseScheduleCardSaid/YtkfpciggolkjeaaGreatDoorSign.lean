/- Contracts of LiteralSign, RuleName on both sides. -/
import Derived.Test.YtkfpciggolkjeaaGreatDoorIn
namespace Go.Proofs.YtkfpciggolkjeaaGreatDoor
open Go.ChangeShapes Go.WideShapes Go.ChangeAt Go.RowKit
set_option linter.unusedVariables false

def ruleStr : Nat → ByteArray
  | 0 => ⟨#[110, 111, 110, 101]⟩
  | 1 => ⟨#[108, 105, 110, 107]⟩
  | 2 => ⟨#[101, 110, 100]⟩
  | 3 => ⟨#[116, 105, 109, 101]⟩
  | 4 => ⟨#[119, 111, 114, 107]⟩
  | 5 => ⟨#[112, 97, 105, 114]⟩
  | 6 => ⟨#[115, 116, 111, 99, 107]⟩
  | _ => ⟨#[]⟩

def ruleNameF (n : Int) : ByteArray := if inB n 0 6 then ruleStr n.toNat else ⟨#[]⟩
theorem ruleNameF_no (n : Int) (h : inB n 0 6 = false) : ruleNameF n = ⟨#[]⟩ := by simp [ruleNameF, h]

def signStr : Nat → ByteArray
  | 1 => ⟨#[62, 61]⟩
  | 2 => ⟨#[60, 61]⟩
  | 3 => ⟨#[61]⟩
  | 4 => ⟨#[33, 61]⟩
  | _ => ⟨#[]⟩
def signF (n : Int) : ByteArray := if inB n 1 4 then signStr n.toNat else ⟨#[]⟩
theorem signF_no (n : Int) (h : inB n 1 4 = false) : signF n = ⟨#[]⟩ := by simp [signF, h]

theorem iRuleName (n : Int) (w : World) :
    Calls Tryz.prog 38 #[.int .i64 n] w fun e w' => e = .returned (.string (ruleNameF n)) ∧ Bel w w' := by
  cases hb : inB n 0 6
  · have HF := Lib.hid (ruleNameF_no n hb)
    go_enter Tryz.func38, Tryz.ntmps38
    go_wp2_with (go_at_call 71; refine (within_any _ _ _ _).mono ?_; rintro e w' ⟨rfl, rfl⟩)
    go_ret
    exact ⟨ret_str HF.out.symm, by repeat (first | exact Bel.refl _ | apply Bel.drew | apply Bel.alloc)⟩
  · obtain ⟨k, rfl, hk⟩ := inB_cases n 6 hb
    clear hb
    have hc : k = 0 ∨ k = 1 ∨ k = 2 ∨ k = 3 ∨ k = 4 ∨ k = 5 ∨ k = 6 := by omega
    clear hk
    rcases hc with rfl | rfl | rfl | rfl | rfl | rfl | rfl
    all_goals
      go_enter Tryz.func38, Tryz.ntmps38
      go_wp2_with (go_at_call 71; refine (within_any _ _ _ _).mono ?_; rintro e w' ⟨rfl, rfl⟩)
      go_ret
      exact ⟨rfl, by repeat (first | exact Bel.refl _ | apply Bel.drew | apply Bel.alloc)⟩

theorem sRuleName (n : Int) (w : World) :
    Calls Tryz.prog 30 #[.int .i64 n] w fun e w' => e = .returned (.string (ruleNameF n)) ∧ Bel w w' := by
  cases hb : inB n 0 6
  · have HF := Lib.hid (ruleNameF_no n hb)
    go_enter Tryz.func30, Tryz.ntmps30
    go_wp2_with (go_at_call 65; refine (l01In_any _ _ _ _).mono ?_; rintro e w' ⟨rfl, rfl⟩)
    go_ret
    exact ⟨ret_str HF.out.symm, by repeat (first | exact Bel.refl _ | apply Bel.drew | apply Bel.alloc)⟩
  · obtain ⟨k, rfl, hk⟩ := inB_cases n 6 hb
    clear hb
    have hc : k = 0 ∨ k = 1 ∨ k = 2 ∨ k = 3 ∨ k = 4 ∨ k = 5 ∨ k = 6 := by omega
    clear hk
    rcases hc with rfl | rfl | rfl | rfl | rfl | rfl | rfl
    all_goals
      go_enter Tryz.func30, Tryz.ntmps30
      go_wp2_with (go_at_call 65; refine (l01In_any _ _ _ _).mono ?_; rintro e w' ⟨rfl, rfl⟩)
      go_ret
      exact ⟨rfl, by repeat (first | exact Bel.refl _ | apply Bel.drew | apply Bel.alloc)⟩

theorem sLiteralSign (n : Int) (w : World) :
    Calls Tryz.prog 85 #[.int .i64 n] w fun e w' => e = .returned (.string (signF n)) ∧ Bel w w' := by
  cases hb : inB n 1 4
  · have HF := Lib.hid (signF_no n hb)
    go_enter Tryz.func85, Tryz.ntmps85
    go_wp2_with (go_at_call 65; refine (l01In_any _ _ _ _).mono ?_; rintro e w' ⟨rfl, rfl⟩)
    go_ret
    exact ⟨ret_str HF.out.symm, by repeat (first | exact Bel.refl _ | apply Bel.drew | apply Bel.alloc)⟩
  · obtain ⟨k, rfl, hk1, hk⟩ := inB_cases1 n 4 hb
    clear hb
    have hc : k = 1 ∨ k = 2 ∨ k = 3 ∨ k = 4 := by omega
    clear hk hk1
    rcases hc with rfl | rfl | rfl | rfl
    all_goals
      go_enter Tryz.func85, Tryz.ntmps85
      go_wp2_with (go_at_call 65; refine (l01In_any _ _ _ _).mono ?_; rintro e w' ⟨rfl, rfl⟩)
      go_ret
      exact ⟨rfl, by repeat (first | exact Bel.refl _ | apply Bel.drew | apply Bel.alloc)⟩

theorem iLiteralSign (n : Int) (w : World) :
    Calls Tryz.prog 49 #[.int .i64 n] w fun e w' => e = .returned (.string (signF n)) ∧ w = w' := by
  cases hb : inB n 1 4
  · have HF := Lib.hid (signF_no n hb)
    simp only [inB, Bool.and_eq_false_iff, decide_eq_false_iff_not] at hb
    have h1 : (n == 1) = false := by simp; omega
    have h2 : (n == 2) = false := by simp; omega
    have h3 : (n == 3) = false := by simp; omega
    have h4 : (n == 4) = false := by simp; omega
    clear hb
    go_enter Tryz.func49, Tryz.ntmps49
    go_wp2
    go_ret
    exact ⟨ret_str HF.out.symm, rfl⟩
  · obtain ⟨k, rfl, hk1, hk⟩ := inB_cases1 n 4 hb
    clear hb
    have hc : k = 1 ∨ k = 2 ∨ k = 3 ∨ k = 4 := by omega
    clear hk hk1
    rcases hc with rfl | rfl | rfl | rfl
    all_goals
      go_enter Tryz.func49, Tryz.ntmps49
      go_wp2
      go_ret
      exact ⟨rfl, rfl⟩

end Go.Proofs.YtkfpciggolkjeaaGreatDoor
