/- ParseRule, plain: a rule's text can be read in one way. -/
import Derived.Test.YtkfpciggolkjeaaGreatDoorLitP
import Derived.Test.YtkfpciggolkjeaaGreatDoorFmtRule
namespace Go.Proofs.YtkfpciggolkjeaaGreatDoor
open Go.ChangeShapes Go.WideShapes Go.ChangeAt Go.RowKit
set_option linter.unusedVariables false

theorem itoa_small (n : Int) : ∀ b ∈ Lib.itoa n, b.toNat ≤ 57 := by
  have dg : ∀ u : Nat, ∀ b ∈ Lib.decDigits u, b.toNat ≤ 57 := by
    intro u b hb
    obtain ⟨k, hk⟩ := List.getElem?_of_mem hb
    obtain ⟨d, hd⟩ := digits_digit u k b hk
    unfold Lib.digitVal at hd
    split at hd
    · next h1 => exact h1.2
    · cases hd
  rcases Int.lt_or_le n 0 with h0 | h0
  · obtain ⟨u, rfl⟩ : ∃ u : Nat, n = -(u : Int) := ⟨n.natAbs, by omega⟩
    rw [Lib.itoa_neg u (by omega)]
    intro b hb
    rcases List.mem_cons.1 hb with rfl | hb
    · decide
    · exact dg u b hb
  · obtain ⟨u, rfl⟩ := Int.eq_ofNat_of_zero_le h0
    rw [Lib.itoa_nonneg]
    exact dg u
theorem name_first {s : ByteArray} (h : isNameB s = true) : ∃ b, s.data.toList.head? = some b ∧ 97 ≤ b.toNat := by
  unfold isNameB at h
  rw [Bool.and_eq_true] at h
  have hs : 0 < s.size := by
    have := h.2
    simp only [inBv, Bool.and_eq_true, decide_eq_true_eq] at this
    omega
  have h1 := List.all_eq_true.1 h.1 0 (List.mem_range.2 hs)
  have h2 : byteAt s 0 = s[0].toNat := byteAt_eq s 0 hs
  refine ⟨s[0], by rw [List.head?_eq_getElem?]; exact list_at s hs, ?_⟩
  unfold nameAt smallB at h1
  rw [h2] at h1
  simp only [decide_true, Bool.not_true, Bool.false_and, Bool.or_false, Bool.and_eq_true, decide_eq_true_eq] at h1
  exact h1.1
theorem name_num {s : ByteArray} (h : isNameB s = true) : parseV s = (0, false) := by
  refine parseV_no fun n hn => ?_
  obtain ⟨b, hb, h97⟩ := name_first h
  have h1 : s.data.toList = Lib.itoa n := by rw [hn.2.2, decV_list]
  rw [h1] at hb
  have := itoa_small n b (List.mem_of_mem_head? hb)
  omega
def NumB (n : Int) : Prop := -100000 ≤ n ∧ n ≤ 100000
theorem fmtV_num {n : Int} (h : NumB n) : fmtV n = decV n := by unfold fmtV; rw [if_pos (inB_of h.1 h.2)]
theorem parse_num {n : Int} (h : NumB n) : parseV (fmtV n) = (n, true) := by rw [fmtV_num h]; exact parseV_of ⟨h.1, h.2, rfl⟩
theorem num_sp {n : Int} (h : NumB n) : ∀ b ∈ (fmtV n).data.toList, b ≠ 32 := by rw [fmtV_num h, decV_list]; exact fun b hb => (itoa_bytes n b hb).2.1
theorem name_sp {s : ByteArray} (h : isNameB s = true) : ∀ b ∈ s.data.toList, b ≠ 32 := by
  intro b hb e
  have h1 := name_bytes h b hb
  rw [e] at h1
  revert h1
  decide
/-- The kind, of the first k, whose name a word is. -/
def kindTo (x : ByteArray) : Nat → Int
  | 0 => 0
  | k + 1 => if ruleNameF ((k + 1 : Nat) : Int) = x then ((k + 1 : Nat) : Int) else kindTo x k
theorem kindTo_name {k : Int} (h : 1 ≤ k ∧ k ≤ 6) : kindTo (ruleNameF k) 6 = k := by
  have e : k = 1 ∨ k = 2 ∨ k = 3 ∨ k = 4 ∨ k = 5 ∨ k = 6 := by omega
  rcases e with rfl | rfl | rfl | rfl | rfl | rfl <;> decide
theorem kind_sp {k : Int} (h : 1 ≤ k ∧ k ≤ 6) : (∀ b ∈ (ruleNameF k).data.toList, b ≠ 32) ∧ (ruleNameF k).data.toList ≠ [] := by
  have e : k = 1 ∨ k = 2 ∨ k = 3 ∨ k = 4 ∨ k = 5 ∨ k = 6 := by omega
  rcases e with rfl | rfl | rfl | rfl | rfl | rfl <;> decide
noncomputable def pvI (w : ByteArray) : Int := (parseV w).1
noncomputable def fldV (p : ProjT) (w : ByteArray) : Int := if (parseV w).2 = true then (parseV w).1 else actIndex p.2.1 w
/-- What the reference reads out of the words. -/
noncomputable def specRule (p : ProjT) (k : Int) (x y z : ByteArray) : RuleT :=
  if k = 2 then (k, actIndex p.2.1 x, 0, 0)
  else if k = 3 then (k, pvI x, pvI y, 0)
  else if k = 4 then (k, pvI x, pvI y, pvI z)
  else if k = 5 then (k, pvI x, actIndex p.2.1 y, actIndex p.2.1 z)
  else (k, pvI x, 0, 0)
/-- The i-th field that the program reads, of n words. -/
noncomputable def fldAt (p : ProjT) (ws : List ByteArray) (n i : Nat) : Int := if i < n then fldV p (ws.getD i ⟨#[]⟩) else 0
def RuleOf (p : ProjT) (s : ByteArray) (r : RuleT) : Prop := ruleOkB p r = true ∧ fmtRuleV p r = s
theorem ruleOk_full {p : ProjT} {k a b c : Int} (h : ruleOkB p (k, a, b, c) = true) : projOk p = true ∧
    ((k = 1 ∧ NumB a ∧ b = 0 ∧ c = 0) ∨ (k = 2 ∧ (∃ x : Nat, a = x ∧ x < p.2.1.length) ∧ b = 0 ∧ c = 0) ∨ (k = 3 ∧ NumB a ∧ NumB b ∧ c = 0) ∨ (k = 4 ∧ NumB a ∧ NumB b ∧ NumB c) ∨
      (k = 5 ∧ NumB a ∧ (∃ y : Nat, b = y ∧ y < p.2.1.length) ∧ ∃ z : Nat, c = z ∧ z < p.2.1.length) ∨ (k = 6 ∧ NumB a ∧ b = 0 ∧ c = 0)) := by
  unfold ruleOkB at h
  simp only [Bool.and_eq_true] at h
  have hp := h.1
  unfold projOk headOkB at hp
  simp only [inBv, Bool.and_eq_true, decide_eq_true_eq] at hp
  refine ⟨h.1, ?_⟩
  have h2 := h.2
  unfold ruleAt at h2
  by_cases e1 : k = 1
  · rw [if_pos e1] at h2
    simp only [inBv, Bool.and_eq_true, decide_eq_true_eq] at h2
    exact .inl ⟨e1, ⟨by omega, by omega⟩, h2.2.1, h2.2.2⟩
  rw [if_neg e1] at h2
  by_cases e2 : k = 2
  · rw [if_pos e2] at h2
    simp only [inBv, Bool.and_eq_true, decide_eq_true_eq] at h2
    exact .inr (.inl ⟨e2, ⟨a.toNat, by omega, by omega⟩, h2.2.1, h2.2.2⟩)
  rw [if_neg e2] at h2
  by_cases e3 : k = 3
  · rw [if_pos e3] at h2
    simp only [inBv, Bool.and_eq_true, decide_eq_true_eq] at h2
    exact .inr (.inr (.inl ⟨e3, ⟨by omega, by omega⟩, ⟨by omega, by omega⟩, h2.2.2⟩))
  rw [if_neg e3] at h2
  by_cases e4 : k = 4
  · rw [if_pos e4] at h2
    simp only [inBv, Bool.and_eq_true, decide_eq_true_eq] at h2
    exact .inr (.inr (.inr (.inl ⟨e4, ⟨by omega, by omega⟩, ⟨by omega, by omega⟩, ⟨by omega, by omega⟩⟩)))
  rw [if_neg e4] at h2
  by_cases e5 : k = 5
  · rw [if_pos e5] at h2
    simp only [machB, inBv, Bool.and_eq_true, decide_eq_true_eq] at h2
    exact .inr (.inr (.inr (.inr (.inl ⟨e5, ⟨by omega, by omega⟩, ⟨b.toNat, by omega, by omega⟩, ⟨c.toNat, by omega, by omega⟩⟩))))
  rw [if_neg e5] at h2
  by_cases e6 : k = 6
  · rw [if_pos e6] at h2
    simp only [inBv, Bool.and_eq_true, decide_eq_true_eq] at h2
    exact .inr (.inr (.inr (.inr (.inr ⟨e6, ⟨by omega, by omega⟩, h2.2.1, h2.2.2⟩))))
  rw [if_neg e6] at h2
  cases h2
/-- The words of a rule's text. -/
structure RuleText (p : ProjT) (s : ByteArray) (r : RuleT) (ws : List ByteArray) : Prop where
  split : splitV s ⟨#[32]⟩ = ws
  kind : kindTo (ws.getD 0 ⟨#[]⟩) 6 = r.1
  spec : specRule p r.1 (ws.getD 1 ⟨#[]⟩) (ws.getD 2 ⟨#[]⟩) (ws.getD 3 ⟨#[]⟩) = r
  imp : ∀ n, n = ws.length → (r.1, fldAt p ws n 1, fldAt p ws n 2, fldAt p ws n 3) = r
  len : ws.length ≤ 4
  ne : s ≠ ⟨#[]⟩
theorem act_facts {p : ProjT} (hp : projOk p = true) {x : Nat} (hx : x < p.2.1.length) : isNameB (p.2.1.getD x zAct).1 = true ∧ actIndex p.2.1 (p.2.1.getD x zAct).1 = x := by
  have h2 := projOk_act hp hx
  unfold actAtOk actOkB at h2
  simp only [Bool.and_eq_true, decide_eq_true_eq] at h2
  exact ⟨h2.1.2.1, h2.2⟩
theorem fld_name {p : ProjT} (hp : projOk p = true) {x : Nat} (hx : x < p.2.1.length) : fldV p (p.2.1.getD x zAct).1 = x := by
  unfold fldV
  rw [name_num (act_facts hp hx).1, if_neg (by decide)]
  exact (act_facts hp hx).2
theorem fld_num {p : ProjT} {n : Int} (h : NumB n) : fldV p (fmtV n) = n := by unfold fldV; rw [parse_num h]; rfl
theorem pv_num {n : Int} (h : NumB n) : pvI (fmtV n) = n := by unfold pvI; rw [parse_num h]
theorem join_ne {w : ByteArray} {ws : List ByteArray} {sep : ByteArray} (h : w.data.toList ≠ []) : joinB (w :: ws) sep ≠ ⟨#[]⟩ := by
  intro e
  have h1 := joinB_list (w :: ws) sep
  rw [e, List.map_cons, Lib.join_cons] at h1
  have h2 : ([] : List UInt8) = w.data.toList ++ _ := h1
  exact h ((List.append_eq_nil_iff.1 h2.symm).1)
theorem rule_text {p : ProjT} {s : ByteArray} {r : RuleT} (h : RuleOf p s r) : ∃ ws, RuleText p s r ws := by
  obtain ⟨k, a, b, c⟩ := r
  obtain ⟨ho, hf⟩ := h
  obtain ⟨hp, hk⟩ := ruleOk_full ho
  unfold fmtRuleV at hf
  rw [if_pos ho] at hf
  refine ⟨ruleWords p k a b c, ?_⟩
  have hsp : ∀ w ∈ ruleWords p k a b c, ∀ b ∈ w.data.toList, b ≠ 32 := by
    intro w hw
    unfold ruleWords at hw
    rcases hk with ⟨rfl, ha, rfl, rfl⟩ | ⟨rfl, ⟨x, rfl, hx⟩, rfl, rfl⟩ | ⟨rfl, ha, hb, rfl⟩ | ⟨rfl, ha, hb, hc⟩ | ⟨rfl, ha, ⟨y, rfl, hy⟩, ⟨z, rfl, hz⟩⟩ | ⟨rfl, ha, rfl, rfl⟩
    · simp at hw
      rcases hw with rfl | rfl
      · exact (kind_sp (by omega)).1
      · exact num_sp ha
    · simp at hw
      rcases hw with rfl | rfl
      · exact (kind_sp (by omega)).1
      · rw [← List.getD_eq_getElem?_getD]; exact name_sp (act_facts hp hx).1
    · simp at hw
      rcases hw with rfl | rfl | rfl
      · exact (kind_sp (by omega)).1
      · exact num_sp ha
      · exact num_sp hb
    · simp at hw
      rcases hw with rfl | rfl | rfl | rfl
      · exact (kind_sp (by omega)).1
      · exact num_sp ha
      · exact num_sp hb
      · exact num_sp hc
    · simp at hw
      rcases hw with rfl | rfl | rfl | rfl
      · exact (kind_sp (by omega)).1
      · exact num_sp ha
      · rw [← List.getD_eq_getElem?_getD]; exact name_sp (act_facts hp hy).1
      · rw [← List.getD_eq_getElem?_getD]; exact name_sp (act_facts hp hz).1
    · simp at hw
      rcases hw with rfl | rfl
      · exact (kind_sp (by omega)).1
      · exact num_sp ha
  have hhd : ∃ r, ruleWords p k a b c = ruleNameF k :: r := by
    unfold ruleWords
    split
    · exact ⟨_, rfl⟩
    split
    · exact ⟨_, rfl⟩
    split
    · exact ⟨_, rfl⟩
    split
    · exact ⟨_, rfl⟩
    · exact ⟨_, rfl⟩
  have hkb : 1 ≤ k ∧ k ≤ 6 := by omega
  have hsplit : splitV s ⟨#[32]⟩ = ruleWords p k a b c := by
    rw [← hf]
    exact splitV_join (by obtain ⟨r, e⟩ := hhd; rw [e]; simp) hsp
  have hkind : kindTo ((ruleWords p k a b c).getD 0 ⟨#[]⟩) 6 = k := by
    obtain ⟨r, e⟩ := hhd
    rw [e]
    exact kindTo_name hkb
  have hne : s ≠ ⟨#[]⟩ := by
    obtain ⟨r, e⟩ := hhd
    rw [← hf]
    show joinB (ruleWords p k a b c) _ ≠ _
    rw [e]
    exact join_ne (kind_sp hkb).2
  clear hhd hsp ho hf
  rcases hk with ⟨rfl, ha, rfl, rfl⟩ | ⟨rfl, ⟨x, rfl, hx⟩, rfl, rfl⟩ | ⟨rfl, ha, hb, rfl⟩ | ⟨rfl, ha, hb, hc⟩ | ⟨rfl, ha, ⟨y, rfl, hy⟩, ⟨z, rfl, hz⟩⟩ | ⟨rfl, ha, rfl, rfl⟩
  · exact ⟨hsplit, hkind, by simp [specRule, ruleWords, pv_num ha], by rintro n rfl; simp [fldAt, ruleWords, fld_num ha], by simp [ruleWords], hne⟩
  · exact ⟨hsplit, hkind, by
      have := (act_facts hp hx).2
      show specRule p 2 (p.2.1.getD x zAct).1 _ _ = _
      simp only [specRule]
      rw [this]
      rfl, by
      rintro n rfl
      have h1 : fldAt p (ruleWords p 2 x 0 0) 2 1 = x := by
        show (if 1 < 2 then fldV p (p.2.1.getD x zAct).1 else 0) = _
        rw [if_pos (by decide)]
        exact fld_name hp hx
      show ((2 : Int), fldAt p (ruleWords p 2 x 0 0) 2 1, fldAt p (ruleWords p 2 x 0 0) 2 2, fldAt p (ruleWords p 2 x 0 0) 2 3) = _
      rw [h1]
      rfl, by simp [ruleWords], hne⟩
  · exact ⟨hsplit, hkind, by simp [specRule, ruleWords, pv_num ha, pv_num hb], by rintro n rfl; simp [fldAt, ruleWords, fld_num ha, fld_num hb], by simp [ruleWords], hne⟩
  · exact ⟨hsplit, hkind, by simp [specRule, ruleWords, pv_num ha, pv_num hb, pv_num hc], by rintro n rfl; simp [fldAt, ruleWords, fld_num ha, fld_num hb, fld_num hc], by simp [ruleWords], hne⟩
  · exact ⟨hsplit, hkind, by
      show specRule p 5 (fmtV a) (p.2.1.getD y zAct).1 (p.2.1.getD z zAct).1 = _
      simp only [specRule]
      rw [(act_facts hp hy).2, (act_facts hp hz).2, pv_num ha]
      rfl, by
      rintro n rfl
      show ((5 : Int), fldV p (fmtV a), fldV p (p.2.1.getD y zAct).1, fldV p (p.2.1.getD z zAct).1) = _
      rw [fld_num ha, fld_name hp hy, fld_name hp hz], by simp [ruleWords], hne⟩
  · exact ⟨hsplit, hkind, by simp [specRule, ruleWords, pv_num ha], by rintro n rfl; simp [fldAt, ruleWords, fld_num ha], by simp [ruleWords], hne⟩
open Classical in
/-- What ParseRule answers. -/
noncomputable def parseRuleV (p : ProjT) (s : ByteArray) : RuleT × Bool := if h : ∃ r, RuleOf p s r then (h.choose, true) else ((0, 0, 0, 0), false)
theorem rule_eq {p : ProjT} {s : ByteArray} {r r' : RuleT} (h : RuleOf p s r) (h' : RuleOf p s r') : r = r' := by
  obtain ⟨ws, h1⟩ := rule_text h
  obtain ⟨ws', h2⟩ := rule_text h'
  have e : ws = ws' := h1.split.symm.trans h2.split
  subst e
  have e1 : r.1 = r'.1 := h1.kind.symm.trans h2.kind
  rw [← h1.spec, ← h2.spec, e1]
theorem parseRule_of {p : ProjT} {s : ByteArray} {r : RuleT} (h : RuleOf p s r) : parseRuleV p s = (r, true) := by
  unfold parseRuleV
  have hx : ∃ r, RuleOf p s r := ⟨r, h⟩
  rw [dif_pos hx]
  exact congrArg (·, true) (rule_eq hx.choose_spec h)
theorem parseRule_no {p : ProjT} {s : ByteArray} (h : ∀ r, ¬ RuleOf p s r) : parseRuleV p s = ((0, 0, 0, 0), false) := by
  unfold parseRuleV
  rw [dif_neg (fun ⟨r, hr⟩ => h r hr)]
theorem ruleOf_fmt {p : ProjT} {s : ByteArray} {r : RuleT} (h : fmtRuleV p r = s) (hs : s ≠ ⟨#[]⟩) : RuleOf p s r := by
  refine ⟨?_, h⟩
  unfold fmtRuleV at h
  split at h
  · assumption
  · exact absurd h.symm hs
theorem rule_read {p : ProjT} {s : ByteArray} {r : RuleT} (h : RuleOf p s r) : r = specRule p (kindTo ((splitV s ⟨#[32]⟩).getD 0 ⟨#[]⟩) 6) ((splitV s ⟨#[32]⟩).getD 1 ⟨#[]⟩) ((splitV s ⟨#[32]⟩).getD 2 ⟨#[]⟩) ((splitV s ⟨#[32]⟩).getD 3 ⟨#[]⟩) ∧ s ≠ ⟨#[]⟩ := by
  obtain ⟨ws, h1⟩ := rule_text h
  rw [h1.split, h1.kind]
  exact ⟨h1.spec.symm, h1.ne⟩
theorem rule_imp {p : ProjT} {s : ByteArray} {r : RuleT} (h : RuleOf p s r) : r = (kindTo ((splitV s ⟨#[32]⟩).getD 0 ⟨#[]⟩) 6, fldAt p (splitV s ⟨#[32]⟩) (splitV s ⟨#[32]⟩).length 1, fldAt p (splitV s ⟨#[32]⟩) (splitV s ⟨#[32]⟩).length 2, fldAt p (splitV s ⟨#[32]⟩) (splitV s ⟨#[32]⟩).length 3) ∧ (splitV s ⟨#[32]⟩).length ≤ 4 ∧ s ≠ ⟨#[]⟩ := by
  obtain ⟨ws, h1⟩ := rule_text h
  rw [h1.split, h1.kind]
  exact ⟨(h1.imp _ rfl).symm, h1.len, h1.ne⟩
theorem kindTo_in (x : ByteArray) : ∀ k, 0 ≤ kindTo x k ∧ kindTo x k ≤ (k : Int) := by
  intro k
  induction k with
  | zero => exact ⟨Int.le_refl _, Int.le_refl _⟩
  | succ k ih =>
    unfold kindTo
    split <;> omega
theorem kindTo_yes1 {x : ByteArray} {k : Nat} (hk : 1 ≤ k) (h : ruleNameF (k : Int) = x) : kindTo x k = (k : Int) := by
  obtain ⟨j, rfl⟩ : ∃ j, k = j + 1 := ⟨k - 1, by omega⟩
  rw [kindTo, if_pos h]
theorem kindTo_no1 {x : ByteArray} {k : Nat} (hk : 1 ≤ k) (h : ¬ ruleNameF (k : Int) = x) : kindTo x k = kindTo x (k - 1) := by
  obtain ⟨j, rfl⟩ : ∃ j, k = j + 1 := ⟨k - 1, by omega⟩
  rw [kindTo, if_neg h]
  rfl
theorem kindTo_yes {x : ByteArray} {k : Nat} (h : ruleNameF ((k + 1 : Nat) : Int) = x) : kindTo x (k + 1) = ((k + 1 : Nat) : Int) := by rw [kindTo, if_pos h]
theorem kindTo_no {x : ByteArray} {k : Nat} (h : ¬ ruleNameF ((k + 1 : Nat) : Int) = x) : kindTo x (k + 1) = kindTo x k := by rw [kindTo, if_neg h]
end Go.Proofs.YtkfpciggolkjeaaGreatDoor
