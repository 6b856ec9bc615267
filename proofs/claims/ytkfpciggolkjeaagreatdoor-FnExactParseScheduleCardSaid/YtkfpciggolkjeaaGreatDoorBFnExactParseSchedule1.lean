/- Texts laid together: SchP SchQ SchR Cut1 SchM Two OwnStr SchI SchS Kin MarkK Sz. -/
import Derived.Test.YtkfpciggolkjeaaGreatDoorRuleP
import Derived.Test.YtkfpciggolkjeaaGreatDoorFmtSch
import Derived.Lib.CutLaws
import Derived.Lib.IndexBytes
import Derived.Lib.IndexLaws
import Derived.Test.YtkfpciggolkjeaaGreatDoorDec
import Derived.Test.YtkfpciggolkjeaaGreatDoorShelf
import Derived.Lib.Hide
import Derived.Deep.QuietTactic
import Derived.BigQuiet
import Derived.Test.YtkfpciggolkjeaaGreatDoorEq
import Derived.Test.YtkfpciggolkjeaaGreatDoorMark
import Derived.Test.YtkfpciggolkjeaaGreatDoorMut
import Derived.Test.YtkfpciggolkjeaaGreatDoorOwnS
import Derived.Test.YtkfpciggolkjeaaGreatDoorGrow
import Derived.Test.YtkfpciggolkjeaaGreatDoorHeldM
import Derived.Test.YtkfpciggolkjeaaGreatDoorParseI
import Derived.Test.YtkfpciggolkjeaaGreatDoorLitParse
import Derived.Test.YtkfpciggolkjeaaGreatDoorReps
import Derived.Test.YtkfpciggolkjeaaGreatDoorIn
import Derived.Laws.BytesArg
import Derived.Test.YtkfpciggolkjeaaGreatDoorShape

/- SchP -/
section
namespace Go.Proofs.YtkfpciggolkjeaaGreatDoor
open Go.ChangeShapes Go.WideShapes Go.ChangeAt Go.RowKit
set_option linter.unusedVariables false

theorem cut_at {N R : List UInt8} {c : UInt8} (h : ∀ b ∈ N, b ≠ c) : Lib.cut (N ++ c :: R) [c] = (N, R, true) := by
  have hg : (N ++ c :: R)[N.length]? = some c := by rw [List.getElem?_append_right (Nat.le_refl _)]; simp
  have hx : Lib.index (N ++ c :: R) [c] = N.length := by
    rw [Lib.index_one]
    rcases Int.lt_or_le (Lib.indexByte (N ++ c :: R) c) 0 with h0 | h0
    · have h1 : Lib.indexByte (N ++ c :: R) c = -1 := by have := Lib.indexByte_ge (N ++ c :: R) c; omega
      exact absurd hg (Lib.indexByte_none h1 N.length)
    · obtain ⟨o, ho⟩ := Int.eq_ofNat_of_zero_le h0
      obtain ⟨h1, h2⟩ := Lib.indexByte_some ho
      rcases Nat.lt_trichotomy o N.length with hlt | heq | hgt
      · rw [List.getElem?_append_left hlt] at h1
        exact absurd rfl (h c (List.mem_of_getElem? h1))
      · rw [ho, heq]
      · exact absurd hg (h2 N.length hgt)
  have hd : (N ++ c :: R).drop (N.length + 1) = R := by
    rw [show N ++ c :: R = (N ++ [c]) ++ R by simp, show N.length + 1 = (N ++ [c]).length by simp, List.drop_left]
  unfold Lib.cut
  rw [hx, if_pos (by omega), Int.toNat_natCast, List.take_left, List.length_singleton, hd]
/-- What the program reads out of a word. -/
noncomputable def wordRead (y : ByteArray) : (Int × Int) × Bool :=
  let c1 := Lib.cut y.data.toList [64]
  let c2 := Lib.cut c1.2.1 [47]
  (((parseV ⟨c2.1.toArray⟩).1, (parseV ⟨c2.2.1.toArray⟩).1), c1.2.2 && (c2.2.2 && ((parseV ⟨c2.1.toArray⟩).2 && (parseV ⟨c2.2.1.toArray⟩).2)))
/-- What the reference reads out of a word. -/
noncomputable def wordSpec (y : ByteArray) : Int × Int := ((parseV ((splitV y ⟨#[64, 47]⟩).getD 1 ⟨#[]⟩)).1, (parseV ((splitV y ⟨#[64, 47]⟩).getD 2 ⟨#[]⟩)).1)
def SchOf (p : ProjT) (x : ByteArray) (s : SchT) : Prop := schFormB p s = true ∧ fmtSchV p s = x
theorem schForm_at {p : ProjT} {s : SchT} (h : schFormB p s = true) : projOk p = true ∧ s.1.length = p.2.1.length ∧ s.2.length = p.2.1.length ∧ (1 ≤ p.2.1.length ∧ p.2.1.length ≤ 6) ∧
    ∀ k, k < p.2.1.length → NumB (s.1.getD k 0) ∧ NumB (s.2.getD k 0) := by
  unfold schFormB at h
  simp only [Bool.and_eq_true, decide_eq_true_eq] at h
  have hp := h.1
  unfold projOk headOkB at hp
  simp only [inBv, Bool.and_eq_true, decide_eq_true_eq] at hp
  refine ⟨h.1, h.2.1, h.2.2.1, by omega, fun k hk => ?_⟩
  have h3 := List.all_eq_true.1 h.2.2.2 k (List.mem_range.2 hk)
  have h4 := projOk_modes h.1 hk
  unfold formAt at h3
  simp only [inBv, Bool.and_eq_true, decide_eq_true_eq] at h3
  exact ⟨⟨by omega, by omega⟩, ⟨by omega, by omega⟩⟩
theorem word_list (p : ProjT) (s : SchT) (k : Nat) (h1 : NumB (s.1.getD k 0)) (h2 : NumB (s.2.getD k 0)) : (wordV p s k).data.toList = (p.2.1.getD k zAct).1.data.toList ++ 64 :: (Lib.itoa (s.1.getD k 0) ++ 47 :: Lib.itoa (s.2.getD k 0)) := by
  unfold wordV
  rw [fmtV_num h1, fmtV_num h2]
  simp only [ByteArray.data_append, Array.toList_append, decV_list]
  simp
theorem name_no {s : ByteArray} (h : isNameB s = true) {c : UInt8} (hc : nmP c = false) : ∀ b ∈ s.data.toList, b ≠ c := by
  intro b hb e
  have h1 := name_bytes h b hb
  rw [e, hc] at h1
  cases h1
theorem word_facts {p : ProjT} {s : SchT} (h : schFormB p s = true) {k : Nat} (hk : k < p.2.1.length) :
    (∀ b ∈ (wordV p s k).data.toList, b ≠ 32) ∧ wordRead (wordV p s k) = ((s.1.getD k 0, s.2.getD k 0), true) ∧ wordSpec (wordV p s k) = (s.1.getD k 0, s.2.getD k 0) := by
  obtain ⟨hp, -, -, -, hn⟩ := schForm_at h
  obtain ⟨h1, h2⟩ := hn k hk
  have hnm := (act_facts hp hk).1
  have hl := word_list p s k h1 h2
  have i1 := itoa_bytes (s.1.getD k 0)
  have i2 := itoa_bytes (s.2.getD k 0)
  have p1 : parseV ⟨(Lib.itoa (s.1.getD k 0)).toArray⟩ = (s.1.getD k 0, true) := parseV_of ⟨h1.1, h1.2, rfl⟩
  have p2 : parseV ⟨(Lib.itoa (s.2.getD k 0)).toArray⟩ = (s.2.getD k 0, true) := parseV_of ⟨h2.1, h2.2, rfl⟩
  refine ⟨?_, ?_, ?_⟩
  · rw [hl]
    intro b hb
    rcases List.mem_append.1 hb with hb | hb
    · exact name_sp hnm b hb
    rcases List.mem_cons.1 hb with rfl | hb
    · decide
    rcases List.mem_append.1 hb with hb | hb
    · exact (i1 b hb).2.1
    rcases List.mem_cons.1 hb with rfl | hb
    · decide
    · exact (i2 b hb).2.1
  · have e1 := cut_at (R := Lib.itoa (s.1.getD k 0) ++ 47 :: Lib.itoa (s.2.getD k 0)) (name_no hnm (c := 64) (by decide))
    have e2 := cut_at (R := Lib.itoa (s.2.getD k 0)) (c := 47) (fun b hb => (i1 b hb).2.2.2)
    unfold wordRead
    rw [hl, e1]
    simp only []
    rw [e2]
    simp only []
    rw [p1, p2]
    rfl
  · have hs : (splitV (wordV p s k) ⟨#[64, 47]⟩).map (·.data.toList) = [(p.2.1.getD k zAct).1.data.toList, Lib.itoa (s.1.getD k 0), Lib.itoa (s.2.getD k 0)] := by
      rw [splitV_list, hl]
      have q0 : ∀ b ∈ (p.2.1.getD k zAct).1.data.toList, sepP ⟨#[64, 47]⟩ b = false := by
        intro b hb
        have a1 := name_no hnm (c := 64) (by decide) b hb
        have a2 := name_no hnm (c := 47) (by decide) b hb
        simp [sepP, a1, a2]
      have q1 : ∀ b ∈ Lib.itoa (s.1.getD k 0), sepP ⟨#[64, 47]⟩ b = false := fun b hb => by
        have := (i1 b hb).2
        simp [sepP, this.2.1, this.2.2]
      have q2 : ∀ b ∈ Lib.itoa (s.2.getD k 0), sepP ⟨#[64, 47]⟩ b = false := fun b hb => by
        have := (i2 b hb).2
        simp [sepP, this.2.1, this.2.2]
      rw [splitL_cons q0 (by decide), splitL_cons q1 (by decide), splitL_one q2]
    unfold wordSpec
    generalize splitV (wordV p s k) ⟨#[64, 47]⟩ = ws at hs ⊢
    rcases ws with _ | ⟨a, _ | ⟨y, _ | ⟨z, _ | ⟨u, r⟩⟩⟩⟩ <;> simp only [List.map_cons, List.map_nil, List.cons.injEq, reduceCtorEq, and_false] at hs
    have ey : y = ⟨(Lib.itoa (s.1.getD k 0)).toArray⟩ := bytes_ext (by rw [hs.2.1])
    have ez : z = ⟨(Lib.itoa (s.2.getD k 0)).toArray⟩ := bytes_ext (by rw [hs.2.2.1])
    show ((parseV y).1, (parseV z).1) = _
    rw [ey, ez, p1, p2]
/-- The words of a schedule's text. -/
structure SchText (p : ProjT) (x : ByteArray) (s : SchT) (ws : List ByteArray) : Prop where
  split : splitV x ⟨#[32]⟩ = ws
  spec : (ws.map fun y => (wordSpec y).1, ws.map fun y => (wordSpec y).2) = s
  imp : (ws.map fun y => (wordRead y).1.1, ws.map fun y => (wordRead y).1.2) = s
  ok : ∀ y ∈ ws, (wordRead y).2 = true
  len : s.1.length ≤ 6 ∧ s.2.length ≤ 6
  ne : x ≠ ⟨#[]⟩
theorem sch_text {p : ProjT} {x : ByteArray} {s : SchT} (h : SchOf p x s) : ∃ ws, SchText p x s ws := by
  obtain ⟨hf, hx⟩ := h
  obtain ⟨hp, l1, l2, hb, hn⟩ := schForm_at hf
  unfold fmtSchV at hx
  rw [if_pos hf] at hx
  have hmap : ∀ {α : Type} (f : ByteArray → α) (g : Nat → α), (∀ k, k < p.2.1.length → f (wordV p s k) = g k) → (wordsTo p s p.2.1.length).map f = (List.range p.2.1.length).map g := by
    intro α f g hfg
    unfold wordsTo
    rw [List.map_map]
    exact List.map_congr_left fun k hk => hfg k (List.mem_range.1 hk)
  have hrow : ∀ (l : List Int), l.length = p.2.1.length → (List.range p.2.1.length).map (fun k => l.getD k 0) = l := by
    intro l hl
    apply List.ext_getElem
    · simp [hl]
    · intro i h1 h2
      simp [h2]
  have hne : wordsTo p s p.2.1.length ≠ [] := by
    intro e
    have := wordsTo_len p s p.2.1.length
    rw [e] at this
    simp at this
    omega
  refine ⟨wordsTo p s p.2.1.length, ?_, ?_, ?_, ?_, ⟨by omega, by omega⟩, ?_⟩
  · rw [← hx]
    refine splitV_join hne fun w hw => ?_
    obtain ⟨k, hk, rfl⟩ := List.mem_map.1 hw
    exact (word_facts hf (List.mem_range.1 hk)).1
  · rw [hmap _ (fun k => s.1.getD k 0) (fun k hk => by rw [(word_facts hf hk).2.2]), hmap _ (fun k => s.2.getD k 0) (fun k hk => by rw [(word_facts hf hk).2.2]), hrow _ l1, hrow _ l2]
  · rw [hmap _ (fun k => s.1.getD k 0) (fun k hk => by rw [(word_facts hf hk).2.1]), hmap _ (fun k => s.2.getD k 0) (fun k hk => by rw [(word_facts hf hk).2.1]), hrow _ l1, hrow _ l2]
  · intro y hy
    obtain ⟨k, hk, rfl⟩ := List.mem_map.1 hy
    rw [(word_facts hf (List.mem_range.1 hk)).2.1]
  · rw [← hx]
    obtain ⟨w, r, e⟩ := List.exists_cons_of_ne_nil hne
    rw [e]
    refine join_ne ?_
    have hw : w = wordV p s 0 := by
      have h1 : (wordsTo p s p.2.1.length)[0]? = some w := by rw [e]; rfl
      unfold wordsTo at h1
      rw [List.getElem?_map, List.getElem?_range (by omega)] at h1
      exact (Option.some.inj h1).symm
    rw [hw, word_list p s 0 (hn 0 (by omega)).1 (hn 0 (by omega)).2]
    simp
open Classical in
/-- What ParseSchedule answers. -/
noncomputable def parseSchV (p : ProjT) (x : ByteArray) : SchT × Bool := if h : ∃ s, SchOf p x s then (h.choose, true) else (([], []), false)
theorem sch_eq {p : ProjT} {x : ByteArray} {s s' : SchT} (h : SchOf p x s) (h' : SchOf p x s') : s = s' := by
  obtain ⟨ws, h1⟩ := sch_text h
  obtain ⟨ws', h2⟩ := sch_text h'
  have e : ws = ws' := h1.split.symm.trans h2.split
  subst e
  rw [← h1.spec, ← h2.spec]
theorem parseSch_of {p : ProjT} {x : ByteArray} {s : SchT} (h : SchOf p x s) : parseSchV p x = (s, true) := by
  unfold parseSchV
  have hx : ∃ s, SchOf p x s := ⟨s, h⟩
  rw [dif_pos hx]
  exact congrArg (·, true) (sch_eq hx.choose_spec h)
theorem parseSch_no {p : ProjT} {x : ByteArray} (h : ∀ s, ¬ SchOf p x s) : parseSchV p x = (([], []), false) := by
  unfold parseSchV
  rw [dif_neg (fun ⟨s, hs⟩ => h s hs)]
theorem parseSch_len (p : ProjT) (x : ByteArray) : (parseSchV p x).1.1.length ≤ 6 ∧ (parseSchV p x).1.2.length ≤ 6 := by
  by_cases h : ∃ s, SchOf p x s
  · obtain ⟨s, hs⟩ := h
    rw [parseSch_of hs]
    obtain ⟨ws, h1⟩ := sch_text hs
    exact h1.len
  · rw [parseSch_no (fun s hs => h ⟨s, hs⟩)]
    exact ⟨Nat.zero_le _, Nat.zero_le _⟩
theorem schOf_fmt {p : ProjT} {x : ByteArray} {s : SchT} (h : fmtSchV p s = x) (hs : x ≠ ⟨#[]⟩) : SchOf p x s := by
  refine ⟨?_, h⟩
  unfold fmtSchV at h
  split at h
  · assumption
  · exact absurd h.symm hs
end Go.Proofs.YtkfpciggolkjeaaGreatDoor
end

/- SchQ -/
section
namespace Go.Proofs.YtkfpciggolkjeaaGreatDoor
open Go.ChangeShapes Go.WideShapes Go.ChangeAt Go.RowKit
set_option linter.unusedVariables false

theorem sch_read {p : ProjT} {x : ByteArray} {s : SchT} (h : SchOf p x s) : s = ((splitV x ⟨#[32]⟩).map (fun y => (wordSpec y).1), (splitV x ⟨#[32]⟩).map (fun y => (wordSpec y).2)) ∧ x ≠ ⟨#[]⟩ := by
  obtain ⟨ws, h1⟩ := sch_text h
  rw [h1.split]
  exact ⟨h1.spec.symm, h1.ne⟩
theorem sch_imp {p : ProjT} {x : ByteArray} {s : SchT} (h : SchOf p x s) : s = ((splitV x ⟨#[32]⟩).map (fun y => (wordRead y).1.1), (splitV x ⟨#[32]⟩).map (fun y => (wordRead y).1.2)) ∧ (∀ y ∈ splitV x ⟨#[32]⟩, (wordRead y).2 = true) ∧ x ≠ ⟨#[]⟩ := by
  obtain ⟨ws, h1⟩ := sch_text h
  rw [h1.split]
  exact ⟨h1.imp.symm, h1.ok, h1.ne⟩
theorem take_snocD {α : Type} (f : ByteArray → α) {ws : List ByteArray} {k : Nat} (h : k < ws.length) : (ws.take (k + 1)).map f = (ws.take k).map f ++ [f (ws.getD k ⟨#[]⟩)] := by
  rw [List.take_succ_eq_append_getElem h, List.map_append, List.getD_eq_getElem?_getD, List.getElem?_eq_getElem h]
  rfl
theorem parseV_in (s : ByteArray) : I64 (parseV s).1 := by
  by_cases h : ∃ n, Num s n
  · obtain ⟨n, hn⟩ := h
    rw [parseV_of hn]
    have h1 := hn.1
    have h2 := hn.2.1
    unfold I64
    exact ⟨by omega, by omega⟩
  · rw [parseV_no (fun n hn => h ⟨n, hn⟩)]
    unfold I64
    exact ⟨by decide, by decide⟩
end Go.Proofs.YtkfpciggolkjeaaGreatDoor
end

/- SchR -/
section
namespace Go.Proofs.YtkfpciggolkjeaaGreatDoor
open Go.ChangeShapes Go.WideShapes Go.ChangeAt Go.RowKit
set_option linter.unusedVariables false

def cutA (s : ByteArray) (c : UInt8) : ByteArray := ⟨(Lib.cut s.data.toList [c]).1.toArray⟩
def cutB (s : ByteArray) (c : UInt8) : ByteArray := ⟨(Lib.cut s.data.toList [c]).2.1.toArray⟩
def cutO (s : ByteArray) (c : UInt8) : Bool := (Lib.cut s.data.toList [c]).2.2
theorem wordRead_cuts (y : ByteArray) : wordRead y = (((parseV (cutA (cutB y 64) 47)).1, (parseV (cutB (cutB y 64) 47)).1), cutO y 64 && (cutO (cutB y 64) 47 && ((parseV (cutA (cutB y 64) 47)).2 && (parseV (cutB (cutB y 64) 47)).2))) := rfl
theorem list_lenS (s : ByteArray) : s.data.toList.length = s.size := by rw [Array.length_toList]; rfl
theorem cut_len (l : List UInt8) (c : UInt8) : (Lib.cut l [c]).1.length ≤ l.length ∧ (Lib.cut l [c]).2.1.length ≤ l.length := by
  unfold Lib.cut
  split
  · exact ⟨by rw [List.length_take]; omega, by rw [List.length_drop]; omega⟩
  · exact ⟨Nat.le_refl _, Nat.zero_le _⟩
theorem cutA_size (s : ByteArray) (c : UInt8) : (cutA s c).size ≤ s.size := by
  have h := (cut_len s.data.toList c).1
  have e : s.data.toList.length = s.size := list_lenS s
  rw [e] at h
  exact h
theorem cutB_size (s : ByteArray) (c : UInt8) : (cutB s c).size ≤ s.size := by
  have h := (cut_len s.data.toList c).2
  have e : s.data.toList.length = s.size := list_lenS s
  rw [e] at h
  exact h
theorem sch_first (x : ByteArray) : (wordRead ((splitV x ⟨#[32]⟩).getD 0 ⟨#[]⟩)).2 = true → x ≠ ⟨#[]⟩ := by
  rintro h rfl
  have e : (splitV (⟨#[]⟩ : ByteArray) ⟨#[32]⟩).getD 0 ⟨#[]⟩ = ⟨#[]⟩ := by decide
  rw [e, wordRead_cuts] at h
  have e2 : cutO (⟨#[]⟩ : ByteArray) 64 = false := by decide
  simp [e2] at h
end Go.Proofs.YtkfpciggolkjeaaGreatDoor
end

/- Cut1 -/
section
namespace Go.Proofs.YtkfpciggolkjeaaGreatDoor
open Go.ChangeShapes Go.WideShapes Go.ChangeAt Go.RowKit
set_option linter.unusedVariables false

set_option maxHeartbeats 1000000 in
theorem iLitCut1 (s : ByteArray) (c : UInt8) (w : World) (hs : s.size ≤ 1048576) :
    Calls Tryz.prog 92 #[.string s, .string ⟨#[c]⟩] w fun e w' => e = .returned (.tuple #[.string ⟨(Lib.cut s.data.toList [c]).1.toArray⟩, .string ⟨(Lib.cut s.data.toList [c]).2.1.toArray⟩, .bool (Lib.cut s.data.toList [c]).2.2]) ∧ Bel w w' := by
  rcases Lib.indexB_cases s ⟨#[c]⟩ with hix | ⟨i, hix, hroom⟩
  · obtain ⟨e1, e2, e3⟩ := Lib.cutB_miss s ⟨#[c]⟩ hix
    have HIX := Lib.hid (show Lib.indexByte s.data.toList c = -1 from by rw [← Lib.index_one]; exact hix)
    have HE := Lib.hid (show ((⟨(Lib.cut s.data.toList [c]).1.toArray⟩ : ByteArray) = s ∧ (⟨(Lib.cut s.data.toList [c]).2.1.toArray⟩ : ByteArray) = ByteArray.empty ∧ (Lib.cut s.data.toList [c]).2.2 = false) from ⟨e1, e2, e3⟩)
    rw [HE.out.1, HE.out.2.1, HE.out.2.2]
    clear e1 e2 e3 hix
    go_enter Tryz.func92, Tryz.ntmps92
    go_wp2_with (go_at_call 120; (refine (Tryz.stringslite_Index_one s c _).mono ?_); rintro e w' ⟨rfl, rfl⟩; rw [HIX.out])
    go_ret3
    exact ⟨rfl, Bel.refl _⟩
  · obtain ⟨e1, e2, e3⟩ := Lib.cutB_hit s ⟨#[c]⟩ i hix
    have HIX := Lib.hid (show Lib.indexByte s.data.toList c = i from by rw [← Lib.index_one]; exact hix)
    have HE := Lib.hid (show ((⟨(Lib.cut s.data.toList [c]).1.toArray⟩ : ByteArray) = s.extract 0 i ∧ (⟨(Lib.cut s.data.toList [c]).2.1.toArray⟩ : ByteArray) = s.extract (i + 1) s.size ∧ (Lib.cut s.data.toList [c]).2.2 = true) from ⟨e1, e2, e3⟩)
    rw [HE.out.1, HE.out.2.1, HE.out.2.2]
    have hr : i + 1 ≤ s.size := hroom
    have c1 : (0 : Int) ≤ (i : Int) := by omega
    have c2 : (i : Int) ≤ (s.size : Int) := by omega
    have c3 : (0 : Int) ≤ (i : Int) + 1 := by omega
    have c4 : (i : Int) + 1 ≤ (s.size : Int) := by omega
    have c5 : IntKind.i64.wrap ((i : Int) + 1) = (i : Int) + 1 := IntWalk.i64_in _ (by omega)
    clear e1 e2 e3 hix hroom
    go_enter Tryz.func92, Tryz.ntmps92
    go_wp2_with (go_at_call 120; (refine (Tryz.stringslite_Index_one s c _).mono ?_); rintro e w' ⟨rfl, rfl⟩; rw [HIX.out])
    go_quiet (fail)
    go_wp2
    go_ret3
    exact ⟨rfl, by (repeat (first | exact Bel.refl _ | apply Bel.drewN | apply Bel.drew))⟩
set_option maxHeartbeats 1000000 in
theorem iCut1 (s : ByteArray) (c : UInt8) (w : World) (hs : s.size ≤ 1048576) :
    Calls Tryz.prog 55 #[.string s, .string ⟨#[c]⟩] w fun e w' => e = .returned (.tuple #[.string ⟨(Lib.cut s.data.toList [c]).1.toArray⟩, .string ⟨(Lib.cut s.data.toList [c]).2.1.toArray⟩, .bool (Lib.cut s.data.toList [c]).2.2]) ∧ Bel w w' := by
  go_enter Tryz.func55, Tryz.ntmps55
  go_wp2_with fail
  refine (iLitCut1 s c _ hs).mono ?_
  rintro e w1 ⟨rfl, g1⟩
  go_wp2_with fail
  go_ret3
  exact ⟨rfl, g1⟩
end Go.Proofs.YtkfpciggolkjeaaGreatDoor
end

/- SchM -/
section
namespace Go.Proofs.YtkfpciggolkjeaaGreatDoor
open Go.ChangeShapes Go.WideShapes Go.ChangeAt Go.RowKit
set_option linter.unusedVariables false

theorem ret_intS {a b : Int} (h : a = b) : Ending.returned (.int .i64 a) = Ending.returned (.int .i64 b) := by rw [h]
/-- Its parts lie in sets of blocks of their own. -/
def schMR : RepT SchT := fun T w cs x => ∃ (v0 v1 : Value) (S0 S1 : Nat → Prop), cs = [v0, v1] ∧ intsR S0 w [v0] x.1 ∧ intsR S1 w [v1] x.2 ∧ (∀ b, S0 b → T b ∧ ¬ S1 b) ∧ (∀ b, S1 b → T b)
theorem schMR_good : Good schMR := by
  constructor
  · rintro S w w' cs x ⟨v0, v1, S0, S1, rfl, h0, h1, a0, a1⟩ hb
    exact ⟨v0, v1, S0, S1, rfl, intsR_good.stay h0 (fun b h => hb b (a0 b h).1), intsR_good.stay h1 (fun b h => hb b (a1 b h)), a0, a1⟩
  · rintro S T w cs x ⟨v0, v1, S0, S1, rfl, h0, h1, a0, a1⟩ hb
    exact ⟨v0, v1, S0, S1, rfl, h0, h1, fun b h => ⟨hb b (a0 b h).1, (a0 b h).2⟩, fun b h => hb b (a1 b h)⟩
theorem schMR_rep {T : Nat → Prop} {w : World} {cs : List Value} {x : SchT} (h : schMR T w cs x) : schR T w cs x := by
  obtain ⟨v0, v1, S0, S1, rfl, h0, h1, a0, a1⟩ := h
  exact ⟨v0, _, rfl, intsR_good.mono h0 (fun b h => (a0 b h).1), intsR_good.mono h1 (fun b h => (a1 b h))⟩
def schZn (x : SchT) : Nat × Nat := (x.1.length, x.2.length)
def schZc (L : Nat × Nat) : Nat := L.1 + L.2
/-- What marks leave. -/
def mksch (k : Int) (L : Nat × Nat) : SchT := (mkIntS (k) L.1, mkIntS (k + (L.1 : Nat)) L.2)
set_option maxHeartbeats 1000000 in
theorem markSchedule_m (v : Value) (x : SchT) (S : Nat → Prop) (k : Int) (w : World) (hx : aggR schMR S w v x) (hS : ∀ b, S b → b < w.heap.size) (h0 : 0 ≤ k) (h1 : k + (schZc (schZn x) : Nat) ≤ 1099511627776) :
    Calls Tryz.prog 23 #[v, .int .i64 k] w fun e w' => e = .returned (.int .i64 (k + (schZc (schZn x) : Nat))) ∧ aggR schMR S w' v (mksch k (schZn x)) ∧ Mut S w w' := by
  obtain ⟨cs, rfl, v0, v1, S0, S1, rfl, h0, h1, a0, a1⟩ := hx
  obtain ⟨p0, c0, rfl, -⟩ := sliceR_open h0
  obtain ⟨p1, c1, rfl, -⟩ := sliceR_open h1
  obtain ⟨x0, x1⟩ := x
  simp only [schZn, schZc] at *
  obtain ⟨W0, hW0⟩ : ∃ W, W = w.alloc (.cells #[.slice p0 x0.length c0, .slice p1 x1.length c1] 52) := ⟨_, rfl⟩
  have hB0 : Bel w W0 := by rw [hW0]; (repeat (first | assumption | exact Bel.refl _ | apply Bel.drewN | apply Bel.drew | apply Bel.alloc | refine Bel.trans ?_ (by assumption)))
  have hz0 : w.heap.size < W0.heap.size := by rw [hW0]; simp
  have q0 : W0.cell? ⟨w.heap.size, 0, none⟩ = some (.slice p0 x0.length c0) := by rw [hW0]; simp [go_sem]
  have q1 : W0.cell? ⟨w.heap.size, 1, none⟩ = some (.slice p1 x1.length c1) := by rw [hW0]; simp [go_sem]
  have h0 := intsR_good.bel h0 hB0 (fun b h => hS b (a0 b h).1)
  have h1 := intsR_good.bel h1 hB0 (fun b h => hS b (a1 b h))
  have A0 := Lib.hid a0
  have H0 := Lib.hid h0
  have A1 := Lib.hid a1
  have H1 := Lib.hid h1
  have HS := Lib.hid hS
  have HW0 := Lib.hid hW0
  clear hW0 hS a0 h0 a1 h1
  go_enter Tryz.func23, Tryz.ntmps23
  have M0 : Mut S w W0 := Mut.ofBel hB0
  go_wp2_with fail
  rw [← HW0.out]
  refine (markIntS_any _ x0 S0 _ _ H0.out (by omega) (by omega) (by omega)).mono ?_
  rintro e w1 ⟨rfl, R0, m0⟩
  obtain ⟨k1, hk1⟩ : ∃ z : Int, k + ((1 * x0.length : Nat) : Int) = z := ⟨_, rfl⟩
  rw [hk1]
  have Z0 := Lib.hid R0
  clear R0
  have hz1 : w.heap.size < w1.heap.size := by have := m0.size; omega
  have q1 := m0.cell q1 (fun hh => by have := HS.out _ (A0.out _ hh).1; omega)
  have H1 := Lib.hid (m0.keep intsR_good H1.out (fun b h => ⟨by have := HS.out b (A1.out b h); omega, (fun hh => (A0.out b hh).2 h)⟩))
  have M1 := M0.trans (m0.mono (fun b h => (A0.out b h).1))
  clear m0 q0
  go_wp2_with fail
  refine (markIntS_any _ x1 S1 _ _ H1.out (by omega) (by omega) (by omega)).mono ?_
  rintro e w2 ⟨rfl, R1, m1⟩
  obtain ⟨k2, hk2⟩ : ∃ z : Int, k1 + ((1 * x1.length : Nat) : Int) = z := ⟨_, rfl⟩
  rw [hk2]
  have Z1 := Lib.hid R1
  clear R1
  have hz2 : w.heap.size < w2.heap.size := by have := m1.size; omega
  have Z0 := Lib.hid (m1.keep intsR_good Z0.out (fun b h => ⟨by have := HS.out b (A0.out b h).1; omega, (fun hh => (A0.out b h).2 hh)⟩))
  have M2 := M1.trans (m1.mono (fun b h => A1.out b h))
  clear m1 q1
  go_wp2_with fail
  go_ret
  refine ⟨ret_intS (by omega), ⟨[.slice p0 x0.length c0, .slice p1 x1.length c1], rfl, _, _, S0, S1, rfl, ?_, ?_, A0.out, A1.out⟩, M2⟩
  · simpa [mksch] using Z0.out
  · have := Z1.out; rw [← hk1] at this; simpa [mksch, Int.add_assoc] using this

set_option maxHeartbeats 1000000 in
theorem heldSchedule_m (v : Value) (L : Nat × Nat) (S : Nat → Prop) (k : Int) (w : World) (hx : aggR schMR S w v (mksch k L)) (hS : ∀ b, S b → b < w.heap.size) (h0 : 0 ≤ k) (h1 : k + (schZc L : Nat) ≤ 1099511627776) :
    Calls Tryz.prog 24 #[v, .int .i64 k] w fun e w' => e = .returned (.int .i64 (k + (schZc L : Nat))) ∧ Bel w w' := by
  obtain ⟨cs, rfl, v0, v1, S0, S1, rfl, h0, h1, a0, a1⟩ := hx
  obtain ⟨p0, c0, rfl, -⟩ := sliceR_open h0
  obtain ⟨p1, c1, rfl, -⟩ := sliceR_open h1
  obtain ⟨l0, l1⟩ := L
  simp only [schZc, mksch] at *
  simp only [mkIntS_length] at *
  obtain ⟨W0, hW0⟩ : ∃ W, W = w.alloc (.cells #[.slice p0 l0 c0, .slice p1 l1 c1] 52) := ⟨_, rfl⟩
  have hB0 : Bel w W0 := by rw [hW0]; (repeat (first | assumption | exact Bel.refl _ | apply Bel.drewN | apply Bel.drew | apply Bel.alloc | refine Bel.trans ?_ (by assumption)))
  have q0 : W0.cell? ⟨w.heap.size, 0, none⟩ = some (.slice p0 l0 c0) := by rw [hW0]; simp [go_sem]
  have q1 : W0.cell? ⟨w.heap.size, 1, none⟩ = some (.slice p1 l1 c1) := by rw [hW0]; simp [go_sem]
  have H0 := Lib.hid (intsR_good.bel h0 hB0 (fun b h => hS b (a0 b h).1))
  have H1 := Lib.hid (intsR_good.bel h1 hB0 (fun b h => hS b (a1 b h)))
  have HW0 := Lib.hid hW0
  clear hW0 hS a0 h0 a1 h1
  go_enter Tryz.func24, Tryz.ntmps24
  go_wp2_with fail
  rw [← HW0.out]
  obtain ⟨k1, hk1⟩ : ∃ z : Int, k + ((1 * l0 : Nat) : Int) = z := ⟨_, rfl⟩
  refine (heldIntS_any _ l0 S0 _ _ H0.out (by omega) (by omega) (by omega)).mono ?_
  rintro e w1 ⟨rfl, rfl⟩
  rw [hk1]
  have hn1 : ¬ k1 < 0 := by omega
  go_wp2_with fail
  obtain ⟨k2, hk2⟩ : ∃ z : Int, k1 + ((1 * l1 : Nat) : Int) = z := ⟨_, rfl⟩
  refine (heldIntS_any _ l1 S1 _ _ (by have := H1.out; rw [show (k + (l0 : Nat)) = k1 from by omega] at this; exact this) (by omega) (by omega) (by omega)).mono ?_
  rintro e w2 ⟨rfl, rfl⟩
  rw [hk2]
  have hn2 : ¬ k2 < 0 := by omega
  go_wp2_with fail
  go_ret
  exact ⟨ret_intS (by omega), by (repeat (first | assumption | exact Bel.refl _ | apply Bel.drewN | apply Bel.drew | apply Bel.alloc | refine Bel.trans ?_ (by assumption)))⟩

theorem eqSchedule_m (v v' : Value) (x y : SchT) (S S' : Nat → Prop) (w : World) (hx : aggR schMR S w v x) (hy : aggR schMR S' w v' y) (hS : ∀ b, S b → b < w.heap.size) (hS' : ∀ b, S' b → b < w.heap.size) :
    Calls Tryz.prog 21 #[v, v'] w fun e w' => e = .returned (.bool (decide (x = y))) ∧ Bel w w' := by
  obtain ⟨cs, rfl, hx⟩ := hx
  obtain ⟨cs', rfl, hy⟩ := hy
  exact eqSchedule_rep _ _ x y S S' w ⟨cs, rfl, schMR_rep hx⟩ ⟨cs', rfl, schMR_rep hy⟩ hS hS'
end Go.Proofs.YtkfpciggolkjeaaGreatDoor
end

/- Two -/
section
namespace Go.Proofs.YtkfpciggolkjeaaGreatDoor
open Go.RowKit
set_option linter.unusedVariables false

def ApartD (p q : Option Addr) : Prop := ∀ a b, p = some a → q = some b → a.block ≠ b.block
theorem ApartD.symm {p q : Option Addr} (h : ApartD p q) : ApartD q p := fun a b ha hb e => h b a hb ha e.symm
/-- A row that is not touched. -/
theorem Own.rowD {α : Type} {n : Nat} {R : RepT α} {e : TypeId} {B : Nat} {w w' : World} {p : Option Addr} {cap : Nat} {xs : List α} (h : Own (fun _ => False) n R e B w p cap xs) (gd : Good R) (hk : ∀ a, p = some a → w'.heap[a.block]? = w.heap[a.block]?) : Own (fun _ => False) n R e B w' p cap xs := by
  obtain ⟨cells, ⟨h1, h2⟩, h3⟩ := h
  refine ⟨cells, ⟨h1, ?_⟩, fun i hi => ?_⟩
  · rcases h2 with h2 | ⟨g, cap', cur, h4, h5, h6, h7⟩
    · exact .inl h2
    · obtain ⟨rfl, _, _⟩ : p = some ⟨g, 0, none⟩ ∧ xs.length = xs.length ∧ cap = cap' := by simpa using h4
      exact .inr ⟨g, cap', cur, h4, h5, by rw [hk _ rfl]; exact h6, h7⟩
  · obtain ⟨ecs, e1, e2, e3⟩ := h3 i hi
    exact ⟨ecs, e1, e2, gd.mono (gd.stay e3 fun b hb' => hb'.1.elim) fun b hb' => hb'.1.elim⟩
/-- The block of a slice. -/
def InQ (p : Option Addr) (b : Nat) : Prop := ∃ a, p = some a ∧ b = a.block
theorem intsR_sharp {T : Nat → Prop} {w : World} {p : Option Addr} {c : Nat} {xs : List Int} (h : intsR T w [.slice p xs.length c] xs) : intsR (InQ p) w [.slice p xs.length c] xs := by
  obtain ⟨p', c', e, h1, h2, h3⟩ := h
  obtain ⟨rfl, rfl⟩ : p = p' ∧ c = c' := by simpa using e
  refine ⟨p, c, rfl, h1, h2, fun i hi => ?_⟩
  obtain ⟨b, off, ecs, e1, e2, e3, e4, e5⟩ := h3 i hi
  exact ⟨b, off, ecs, e1, ⟨_, e1, rfl⟩, e3, e4, e5⟩

structure Two (t1 : TypeId) (B : Nat) (w : World) (X Y : List Int) (q1 : Option Addr) (c1 : Nat) (q2 : Option Addr) (c2 : Nat) : Prop where
  o1 : Own (fun _ => False) 1 intR t1 B w q1 c1 X
  o2 : Own (fun _ => False) 1 intR t1 B w q2 c2 Y
  a12 : ApartD q1 q2
/-- What an append to the slice q leaves of the rest. -/
def FarA (w w' : World) (q q' : Option Addr) : Prop := ∀ b, b < w.heap.size → (∀ a, q = some a → b ≠ a.block) → w'.heap[b]? = w.heap[b]? ∧ ∀ a, q' = some a → b ≠ a.block
theorem FarA.apart {w w' : World} {q q' p : Option Addr} (h : FarA w w' q q') (ha : ApartD q p) (hp : ∀ b, p = some b → b.block < w.heap.size) : ApartD q' p := fun a b h1 h2 e => (h b.block (hp b h2) (fun a' ha' e' => ha a' b ha' h2 e'.symm)).2 a h1 e.symm
theorem FarA.keep {w w' : World} {q q' p : Option Addr} (h : FarA w w' q q') (ha : ApartD q p) (hp : ∀ b, p = some b → b.block < w.heap.size) : ∀ b, p = some b → w'.heap[b.block]? = w.heap[b.block]? := fun b h2 => (h b.block (hp b h2) (fun a' ha' e' => ha a' b ha' h2 e'.symm)).1
section
variable {t1 : TypeId} {B : Nat} {X Y : List Int} {q1 q2 : Option Addr} {c1 c2 : Nat}
theorem Two.hi {w w' : World} (h : Two t1 B w X Y q1 c1 q2 c2) (hh : Hi B w w') : Two t1 B w' X Y q1 c1 q2 c2 := ⟨h.o1.hi intR_good hh fun _ hf => hf.elim, h.o2.hi intR_good hh fun _ hf => hf.elim, h.a12⟩
theorem Two.bel {w w' : World} (h : Two t1 B w X Y q1 c1 q2 c2) (hb : Bel w w') : Two t1 B w' X Y q1 c1 q2 c2 := h.hi (Hi.ofBel hb)
theorem Two.nil (w : World) : Two t1 B w [] [] none 0 none 0 := ⟨Own.nil _, Own.nil _, fun _ _ h _ => by cases h⟩
theorem Two.push1 {w w' : World} (h : Two t1 B w X Y q1 c1 q2 c2) {q : Option Addr} {c : Nat} {x : Int} (ho : Own (fun _ => False) 1 intR t1 B w' q c (X ++ [x])) (hf : FarA w w' q1 q) : Two t1 B w' (X ++ [x]) Y q c q2 c2 where
  o1 := ho
  o2 := h.o2.rowD intR_good (hf.keep h.a12 fun b hb => (h.o2.lt hb).2)
  a12 := hf.apart h.a12 fun b hb => (h.o2.lt hb).2
theorem Two.push2 {w w' : World} (h : Two t1 B w X Y q1 c1 q2 c2) {q : Option Addr} {c : Nat} {x : Int} (ho : Own (fun _ => False) 1 intR t1 B w' q c (Y ++ [x])) (hf : FarA w w' q2 q) : Two t1 B w' X (Y ++ [x]) q1 c1 q c where
  o1 := h.o1.rowD intR_good (hf.keep h.a12.symm fun b hb => (h.o1.lt hb).2)
  o2 := ho
  a12 := (hf.apart h.a12.symm fun b hb => (h.o1.lt hb).2).symm
theorem Two.done {w : World} (h : Two t1 B w X Y q1 c1 q2 c2) : schMR (fun b => B ≤ b ∧ b < w.heap.size) w [.slice q1 X.length c1, .slice q2 Y.length c2] (X, Y) := by
  refine ⟨_, _, InQ q1, InQ q2, rfl, intsR_sharp (h.o1.done (T := fun _ => True) intR_good (fun _ _ _ => trivial) (fun _ _ _ => trivial)), intsR_sharp (h.o2.done (T := fun _ => True) intR_good (fun _ _ _ => trivial) (fun _ _ _ => trivial)), ?_, ?_⟩
  · rintro b ⟨a, ha, rfl⟩
    exact ⟨h.o1.lt ha, fun ⟨a', ha', e⟩ => h.a12 a a' ha ha' e⟩
  · rintro b ⟨a, ha, rfl⟩
    exact h.o2.lt ha
end
theorem Blk.belowD {B : Nat} {w w' : World} {g : Nat} {e : TypeId} {arr : List Value} (h : Blk w g e arr) (hd : Below B w w') (hg : g < B) : Blk w' g e arr := by
  unfold Blk at h ⊢
  rw [Below.block hd g hg]
  exact h
theorem But.below {g B : Nat} {a b c : World} (h : But g a b) (hd : Below B b c) (hB : a.heap.size ≤ B) : But g a c :=
  ⟨Nat.le_trans h.1 (Below.size hd), fun k hk hlt => by rw [Below.block hd k (by omega)]; exact h.2 k hk hlt⟩
theorem schMR_nil (T : Nat → Prop) (w : World) : schMR T w [.slice none 0 0, .slice none 0 0] ([], []) :=
  ⟨_, _, fun _ => False, fun _ => False, rfl, ⟨none, 0, rfl, Nat.le_refl _, Nat.zero_le _, fun i hi => absurd hi (Nat.not_lt_zero _)⟩, ⟨none, 0, rfl, Nat.le_refl _, Nat.zero_le _, fun i hi => absurd hi (Nat.not_lt_zero _)⟩, fun _ h => h.elim, fun _ h => h.elim⟩
/-- A schedule in new memory, and a Boolean. -/
def FreshSB (w : World) (x : SchT × Bool) (e : Ending) (w' : World) : Prop := ∃ cs : List Value, e = .returned (.tuple #[.agg cs.toArray, .bool x.2]) ∧ schMR (New w w') w' cs x.1 ∧ Bel w w'
end Go.Proofs.YtkfpciggolkjeaaGreatDoor
end

/- OwnStr -/
section
namespace Go.Proofs.YtkfpciggolkjeaaGreatDoor
open Go.ChangeShapes Go.WideShapes Go.ChangeAt Go.RowKit
set_option linter.unusedVariables false

theorem own_strs {e : TypeId} {B : Nat} {w : World} {p : Option Addr} {cap : Nat} {xs : List ByteArray} (h : Own (fun _ => False) 1 strR e B w p cap xs) : w.ownsRow B e 1 (.slice p xs.length cap) xs.length (xs.map Value.string) ∧ ∀ x ∈ xs, x.size ≤ maxLen := by
  obtain ⟨cells, hc, hels⟩ := h
  have hl := hc.1
  have e1 : cells = xs.map Value.string := by
    apply List.ext_getElem?
    intro i
    by_cases hi : i < xs.length
    · obtain ⟨ecs, h1, h2, h3⟩ := hels i hi
      have h4 := h2 0 (by omega)
      rw [Nat.mul_one, Nat.add_zero, h3.1] at h4
      rw [h4]
      simp [hi]
    · rw [List.getElem?_eq_none (by omega), List.getElem?_eq_none (by simp; omega)]
  refine ⟨e1 ▸ hc, fun x hx => ?_⟩
  obtain ⟨i, hi, rfl⟩ := List.getElem_of_mem hx
  obtain ⟨ecs, h1, h2, h3⟩ := hels i hi
  exact h3.2
theorem strs_own {e : TypeId} {B : Nat} {w : World} {p : Option Addr} {cap : Nat} {xs : List ByteArray} (h : w.ownsRow B e 1 (.slice p xs.length cap) xs.length (xs.map Value.string)) (hx : ∀ x ∈ xs, x.size ≤ maxLen) : Own (fun _ => False) 1 strR e B w p cap xs :=
  ⟨_, h, fun i hi => ⟨[.string xs[i]], rfl, fun m hm => by
    obtain rfl : m = 0 := by omega
    simp [hi], rfl, hx _ (List.getElem_mem _)⟩⟩
section
variable {P : Program} {e : TypeId} {B : Nat}
/-- append of several strings. -/
theorem wp_strsO (w : World) {o : Oper} {a : Act} {K : Act → World → Prop} {Q : Exit → Act → World → Prop} (s x : Operand) (t : TypeId)
    (ho : o.op = .call { callee := .builtin .append, args := #[s, x], argTypes := #[t, t] })
    (ht : P.underlying t = some (.slice e)) (hinfo : (P.info? e).map (fun i => (i.zero, i.size, i.bytes)) = some (some (.string ⟨#[]⟩), 1, 16))
    (p : Option Addr) (cap : Nat) (xs : List ByteArray) (hs : a.eval s = .slice p xs.length cap) (hown : Own (fun _ => False) 1 strR e B w p cap xs)
    (g : Nat) (T : TypeId) (ys : List ByteArray) (hx : a.eval x = .slice (some ⟨g, 0, none⟩) ys.length ys.length) (hb : Blk w g T (ys.map Value.string)) (hy : 1 ≤ ys.length) (hsz : ∀ y ∈ ys, y.size ≤ maxLen) (hlen : xs.length + ys.length ≤ 1000000000) (hbase : B ≤ w.heap.size)
    (h : ∀ p' cap' w', Own (fun _ => False) 1 strR e B w' p' cap' (xs ++ ys) → (∀ W, Bel W w → W.heap.size ≤ B → Bel W w') → K (a.put o.dst (.slice p' (xs ++ ys).length cap')) w') : o.wp P a w K Q := by
  obtain ⟨i, hi, hz, hsize, hbytes⟩ := info_parts hinfo
  obtain ⟨hc, hsx⟩ := own_strs hown
  obtain ⟨v', w', hr, h2, h3, h4, h5⟩ := run_append_own_at (P := P) w B t o.type e i (.string ⟨#[]⟩) 1 16 ht hi hz hsize hbytes rfl (by omega) _ _ _ hc ⟨g, 0, none⟩ ys.length ys.length (ys.map Value.string) (by simp) (blk_cells hb) (by intro u hu; obtain ⟨z, -, rfl⟩ := List.mem_map.1 hu; rfl) (by unfold maxLen; omega) (by omega) hbase
  unfold Oper.wp execOp
  simp only [ho, resolve, invoke, builtin, Sem.run_bind, Sem.run_pure, Result.andThen_ok, List.map_toArray, List.map_cons, List.map_nil, hs, hx, hr]
  rw [← List.map_append, ← List.length_append] at h2
  obtain ⟨g', cap', rfl, _, _⟩ := h2.form (by rw [List.length_append]; omega)
  exact h _ _ _ (strs_own h2 (by intro y hy'; rcases List.mem_append.1 hy' with h | h; exact hsx y h; exact hsz y h)) (fun W hW hWB => bel_append hown hW hWB h3)
theorem wpList_strsO (w : World) {ops : Array Oper} {rest : List Oper} {o : Oper} {a : Act} {Q : Exit → Act → World → Prop} (hgd : o.guard = none) (s x : Operand) (t : TypeId)
    (ho : o.op = .call { callee := .builtin .append, args := #[s, x], argTypes := #[t, t] })
    (ht : P.underlying t = some (.slice e)) (hinfo : (P.info? e).map (fun i => (i.zero, i.size, i.bytes)) = some (some (.string ⟨#[]⟩), 1, 16))
    (p : Option Addr) (cap : Nat) (xs : List ByteArray) (hs : a.eval s = .slice p xs.length cap) (hown : Own (fun _ => False) 1 strR e B w p cap xs)
    (g : Nat) (T : TypeId) (ys : List ByteArray) (hx : a.eval x = .slice (some ⟨g, 0, none⟩) ys.length ys.length) (hb : Blk w g T (ys.map Value.string)) (hy : 1 ≤ ys.length) (hsz : ∀ y ∈ ys, y.size ≤ maxLen) (hlen : xs.length + ys.length ≤ 1000000000) (hbase : B ≤ w.heap.size)
    (h : ∀ p' cap' w', Own (fun _ => False) 1 strR e B w' p' cap' (xs ++ ys) → (∀ W, Bel W w → W.heap.size ≤ B → Bel W w') → wpList P ops Q rest (a.put o.dst (.slice p' (xs ++ ys).length cap')) w') : wpList P ops Q (o :: rest) a w :=
  wpList_plain hgd fun _ hK => wp_strsO w s x t ho ht hinfo p cap xs hs hown g T ys hx hb hy hsz hlen hbase fun p' cap' w' k1 k2 => hK _ _ (h p' cap' w' k1 k2)
theorem step_strsO (w : World) {ops : Array Oper} {o : Oper} {a : Act} {K : Act → World → Prop} {Q : Exit → Act → World → Prop} {E : Prop} (hgd : o.guard = none) (s x : Operand) (t : TypeId)
    (ho : o.op = .call { callee := .builtin .append, args := #[s, x], argTypes := #[t, t] })
    (ht : P.underlying t = some (.slice e)) (hinfo : (P.info? e).map (fun i => (i.zero, i.size, i.bytes)) = some (some (.string ⟨#[]⟩), 1, 16))
    (p : Option Addr) (cap : Nat) (xs : List ByteArray) (hs : a.eval s = .slice p xs.length cap) (hown : Own (fun _ => False) 1 strR e B w p cap xs)
    (g : Nat) (T : TypeId) (ys : List ByteArray) (hx : a.eval x = .slice (some ⟨g, 0, none⟩) ys.length ys.length) (hb : Blk w g T (ys.map Value.string)) (hy : 1 ≤ ys.length) (hsz : ∀ y ∈ ys, y.size ≤ maxLen) (hlen : xs.length + ys.length ≤ 1000000000) (hbase : B ≤ w.heap.size)
    (h : ∀ p' cap' w', Own (fun _ => False) 1 strR e B w' p' cap' (xs ++ ys) → (∀ W, Bel W w → W.heap.size ≤ B → Bel W w') → K (a.put o.dst (.slice p' (xs ++ ys).length cap')) w') :
    if Region.wanted o (yielded ops a.tmps) = true then Oper.wp P o a w K Q else E := by
  have hw : Region.wanted o (yielded ops a.tmps) = true := by simp [Region.wanted, hgd]
  rw [if_pos hw]
  exact wp_strsO w s x t ho ht hinfo p cap xs hs hown g T ys hx hb hy hsz hlen hbase h
end
theorem strs_at {T : Nat → Prop} {w : World} {q : Option Addr} {n cap : Nat} {xs : List ByteArray} (h : strsR T w [.slice q n cap] xs) (hl : 1 ≤ xs.length) : ∃ b o, q = some ⟨b, o, none⟩ ∧ T b ∧ ∀ i, i < xs.length → w.cell? ⟨b, o + i, none⟩ = some (.string (xs.getD i ⟨#[]⟩)) := by
  obtain ⟨p, c, e, h1, h2, h3⟩ := h
  obtain ⟨rfl, _, _⟩ : q = p ∧ n = xs.length ∧ cap = c := by simpa using e
  obtain ⟨b, o, ecs, e1, e2, -, -, -⟩ := h3 0 (by omega)
  refine ⟨b, o, e1, e2, fun i hi => ?_⟩
  obtain ⟨b', o', ecs', f1, f2, f3, f4, f5⟩ := h3 i hi
  rw [e1] at f1
  obtain ⟨rfl, rfl⟩ : b = b' ∧ o = o' := by simpa using f1
  have h5 := (f4 0 (by omega)).1
  simp only [Nat.mul_one, Nat.add_zero] at h5
  rw [h5]
  obtain ⟨rfl, -⟩ := f5
  simp [hi]
theorem getD_pad {ws : List ByteArray} (n i : Nat) : (ws ++ List.replicate n (⟨#[]⟩ : ByteArray)).getD i ⟨#[]⟩ = ws.getD i ⟨#[]⟩ := by
  rw [List.getD_eq_getElem?_getD, List.getD_eq_getElem?_getD]
  by_cases h : i < ws.length
  · rw [List.getElem?_append_left h]
  · rw [List.getElem?_append_right (by omega), List.getElem?_eq_none (l := ws) (by omega), List.getElem?_replicate]
    split <;> rfl
end Go.Proofs.YtkfpciggolkjeaaGreatDoor
end

/- SchI -/
section
namespace Go.Proofs.YtkfpciggolkjeaaGreatDoor
open Go.ChangeShapes Go.WideShapes Go.ChangeAt Go.RowKit
set_option linter.unusedVariables false

theorem allocK {w : World} {g : Nat} {o o' : Obj} (h : w.heap[g]? = some o) : (w.alloc o').heap[g]? = some o := by
  have hlt := (Array.getElem?_eq_some_iff.1 h).1
  rw [← h]
  show (w.heap.push _)[g]? = _
  rw [Array.getElem?_push, if_neg (by omega)]
theorem drewK {w : World} {g : Nat} {o : Obj} (h : w.heap[g]? = some o) : w.drew.heap[g]? = some o := h
theorem iCutN (s : ByteArray) (c : UInt8) (w : World) (hs : s.size ≤ 1048576) : Calls Tryz.prog 55 #[.string s, .string ⟨#[c]⟩] w fun e w' => e = .returned (.tuple #[.string (cutA s c), .string (cutB s c), .bool (cutO s c)]) ∧ Bel w w' := iCut1 s c w hs
set_option maxRecDepth 100000 in
set_option maxHeartbeats 8000000 in
theorem iParseSchedule_any (v : Value) (p : ProjT) (S : Nat → Prop) (x : ByteArray) (w : World) (hx : aggR projR S w v p) (hS : ∀ b, S b → b < w.heap.size) (_hn : bulkProject p ≤ 1048576) (hs : x.size ≤ 1048576) (htab : Lib.TabIs Tryz.prog w "internal/strconv.uint64pow10" .u64 Lib.pow10Tab) (herr : ErrVars w) :
    Calls Tryz.prog 20 #[v, .string x] w (FreshSB w (parseSchV p x)) := by
  obtain ⟨cs, rfl, hx⟩ := hx
  obtain ⟨c1, c2, c3, c4, rfl, q0, q1, q2, q3, q4⟩ := projR_open hx
  have Q1 := Lib.hid q1
  have Q2 := Lib.hid q2
  have Q3 := Lib.hid q3
  have Q4 := Lib.hid q4
  have HP := Lib.hid hx
  obtain ⟨p1, k1, rfl, l1, l1', -⟩ := sliceR_open q1
  obtain ⟨p2, k2, rfl, l2, l2', -⟩ := sliceR_open q2
  obtain ⟨p3, k3, rfl, l3, l3', -⟩ := sliceR_open q3
  obtain ⟨p4, k4, rfl, l4, l4', -⟩ := sliceR_open q4
  unfold maxLen at l1' l2' l3' l4'
  clear hx q0 q1 q2 q3 q4
  have HS := Lib.hid hS
  clear hS _hn
  have HTB := Lib.hid htab
  have HER := Lib.hid herr
  clear htab herr
  have HPR := Lib.hid (show ∀ W, Bel w W → aggR projR S W (.agg #[.int .i64 p.1, .slice p1 p.2.1.length k1, .slice p2 p.2.2.1.length k2, .slice p3 p.2.2.2.1.length k3, .slice p4 p.2.2.2.2.length k4]) p ∧ (∀ b, S b → b < W.heap.size) from fun W hW => ⟨aggR_mk (projR_good.bel HP.out hW HS.out), fun b hb => Nat.lt_of_lt_of_le (HS.out b hb) hW.size⟩)
  show Calls Tryz.prog 20 #[.agg #[.int .i64 p.1, .slice p1 p.2.1.length k1, .slice p2 p.2.2.1.length k2, .slice p3 p.2.2.2.1.length k3, .slice p4 p.2.2.2.2.length k4], .string x] w _
  go_enter Tryz.func20, Tryz.ntmps20
  go_wp2_with fail
  obtain ⟨W0, hW0⟩ : ∃ W, W = ((w.alloc (.cells #[.int .i64 p.1, .slice p1 p.2.1.length k1, .slice p2 p.2.2.1.length k2, .slice p3 p.2.2.2.1.length k3, .slice p4 p.2.2.2.2.length k4] 36)).alloc (.cells #[.slice none 0 0, .slice none 0 0] 52)).alloc (.cells #[.slice none 0 0, .slice none 0 0] 52) := ⟨_, rfl⟩
  rw [← hW0]
  have G0 : Bel w W0 := by rw [hW0]; (repeat (first | assumption | exact Bel.refl _ | apply Bel.drewN | apply Bel.drew | apply Bel.alloc | refine Bel.trans ?_ (by assumption)))
  have HBP := Lib.hid (show Blk W0 w.heap.size 36 [.int .i64 p.1, .slice p1 p.2.1.length k1, .slice p2 p.2.2.1.length k2, .slice p3 p.2.2.2.1.length k3, .slice p4 p.2.2.2.2.length k4] from by rw [hW0]; exact ((Blk.new' _ rfl).alloc _).alloc _)
  have HBR := Lib.hid (show Blk W0 (w.heap.size + 1) 52 [.slice none 0 0, .slice none 0 0] from by rw [hW0]; exact (Blk.new' (w := w.alloc (.cells #[.int .i64 p.1, .slice p1 p.2.1.length k1, .slice p2 p.2.2.1.length k2, .slice p3 p.2.2.2.1.length k3, .slice p4 p.2.2.2.2.length k4] 36)) _ (by simp)).alloc _)
  have HBS := Lib.hid (show Blk W0 (w.heap.size + 1 + 1) 52 [.slice none 0 0, .slice none 0 0] from by rw [hW0]; exact Blk.new' _ (by simp))
  have hz0 : (w.heap.size + 1 + 1) < W0.heap.size := by rw [hW0]; simp
  have hz0' : W0.heap.size ≤ (w.heap.size + 1 + 1) + 1 := by rw [hW0]; simp
  have HW0 := Lib.hid hW0
  clear hW0
  refine (iSplitAny_any x ⟨#[32]⟩ _ hs).mono ?_
  rintro e w1 ⟨vq, rfl, hq, g1⟩
  have HRD := Lib.hid (fun s (h : SchOf p x s) => sch_imp h)
  have HNE := Lib.hid (sch_first x)
  have hwl := splitV_le x ⟨#[32]⟩
  have HSZ := Lib.hid (fun i => splitV_getD (s := x) (by_ := ⟨#[32]⟩) i)
  generalize splitV x ⟨#[32]⟩ = ws at *
  obtain ⟨q, cap, rfl, hc1, hc2, -⟩ := sliceR_open hq
  obtain ⟨qb, qo, rfl, hqb, hrow⟩ := strs_at hq hwl.1
  have HDA := Lib.hid (show ∀ W, But (w.heap.size + 1 + 1) w1 W → ∀ i, i < ws.length → W.cell? ⟨qb, qo + i, none⟩ = some (.string (ws.getD i ⟨#[]⟩)) from fun W hW i hi => by
    rw [World.cell?_of_block (w := w1) (a := ⟨qb, qo + i, none⟩) (hW.2 qb (by have := hqb.1; omega) hqb.2)]
    exact hrow i hi)
  have G1 : Bel w w1 := G0.trans g1
  have HBP1 := Lib.hid (HBP.out.bel g1)
  have HBR1 := Lib.hid (HBR.out.bel g1)
  have HBS1 := Lib.hid (HBS.out.bel g1)
  have hz1 := g1.size
  clear hrow hq g1 hc1 hc2 hqb
  go_wp2_with fail
  go_loopw [23] (fun i wr => ∃ (k : Nat) (X Y : List Int) (q1 : Option Addr) (c1 : Nat) (q2 : Option Addr) (c2 : Nat), k ≤ ws.length ∧ i = .int .i64 k ∧ (∀ j, j < k → (wordRead (ws.getD j ⟨#[]⟩)).2 = true) ∧ X = (ws.take k).map (fun y => (wordRead y).1.1) ∧ Y = (ws.take k).map (fun y => (wordRead y).1.2) ∧ Blk wr (w.heap.size + 1 + 1) 52 [.slice q1 X.length c1, .slice q2 Y.length c2] ∧ Blk wr (w.heap.size + 1) 52 [.slice none 0 0, .slice none 0 0] ∧ Blk wr w.heap.size 36 [.int .i64 p.1, .slice p1 p.2.1.length k1, .slice p2 p.2.2.1.length k2, .slice p3 p.2.2.2.1.length k3, .slice p4 p.2.2.2.2.length k4] ∧ Two 3 w1.heap.size wr X Y q1 c1 q2 c2 ∧ Bel w wr ∧ But (w.heap.size + 1 + 1) w1 wr) (fun i _ => ws.length - (intOf i).toNat)
  case atStart => exact ⟨0, [], [], none, 0, none, 0, Nat.zero_le _, rfl, fun j h => absurd h (Nat.not_lt_zero _), rfl, rfl, HBS1.out, HBR1.out, HBP1.out, Two.nil _, by (repeat (first | assumption | exact Bel.refl _ | apply Bel.drewN | apply Bel.drew | apply Bel.alloc | refine Bel.trans ?_ (by assumption))), But.ofBel (by (repeat (first | assumption | exact Bel.refl _ | apply Bel.drewN | apply Bel.drew | apply Bel.alloc | refine Bel.trans ?_ (by assumption))))⟩
  case round =>
    obtain ⟨k, X, Y, q1, c1, q2, c2, hk, rfl, hok, hX, hY, hbs, hbr, hbp, hD, hB, hU⟩ := hrel
    have hxl : X.length ≤ 1048577 := by rw [hX]; simp; omega
    have hyl : Y.length ≤ 1048577 := by rw [hY]; simp; omega
    have HOK := Lib.hid hok
    have HX := Lib.hid hX
    have HY := Lib.hid hY
    have HD0 := Lib.hid hD
    have HBS0 := Lib.hid hbs
    have HBR0 := Lib.hid hbr
    have HBP0 := Lib.hid hbp
    have HG0 := Lib.hid (show Bel w wr ∧ True from ⟨hB, trivial⟩)
    have HU0 := Lib.hid hU
    have hzr := hU.1
    have hle1 := hD.o1.le
    have hle2 := hD.o2.le
    unfold maxLen at hle1 hle2
    clear hok hX hY hD hbs hbr hbp hB hU HBP HBR HBS
    by_cases hlt : k < ws.length
    · have hki : (k : Int) < (ws.length : Int) := by omega
      have dk := HDA.out wr HU0.out k hlt
      have hyz := HSZ.out k
      have HXS := Lib.hid (show (ws.take (k + 1)).map (fun y => (wordRead y).1.1) = (ws.take k).map (fun y => (wordRead y).1.1) ++ [(wordRead (ws.getD k ⟨#[]⟩)).1.1] from take_snocD _ hlt)
      have HYS := Lib.hid (show (ws.take (k + 1)).map (fun y => (wordRead y).1.2) = (ws.take k).map (fun y => (wordRead y).1.2) ++ [(wordRead (ws.getD k ⟨#[]⟩)).1.2] from take_snocD _ hlt)
      have HMEM := Lib.hid (show ws.getD k ⟨#[]⟩ ∈ ws from by rw [List.getD_eq_getElem?_getD, List.getElem?_eq_getElem hlt]; exact List.getElem_mem _)
      have HOK1 := Lib.hid (show (wordRead (ws.getD k ⟨#[]⟩)).2 = true → ∀ j, j < k + 1 → (wordRead (ws.getD j ⟨#[]⟩)).2 = true from fun h j hj => by
        by_cases e : j < k
        · exact HOK.out j e
        · obtain rfl : j = k := by omega
          exact h)
      generalize ws.getD k ⟨#[]⟩ = y at *
      have HWR := Lib.hid (wordRead_cuts y)
      have zA := cutA_size (cutB y 64) 47
      have zB := cutB_size (cutB y 64) 47
      have zR := cutB_size y 64
      go_wp2_with fail
      refine (iCutN y 64 _ (by omega)).mono ?_
      rintro e w3 ⟨rfl, g3⟩
      generalize cutB y 64 = R1 at *
      generalize cutO y 64 = o1 at *
      generalize cutA y 64 = A1 at *
      go_wp2_with fail
      refine (iCutN R1 47 _ (by omega)).mono ?_
      rintro e w4 ⟨rfl, g4⟩
      generalize cutA R1 47 = u1 at *
      generalize cutB R1 47 = u2 at *
      generalize cutO R1 47 = o2 at *
      have HIa1 := Lib.hid (parseV_in u1)
      have HIa2 := Lib.hid (parseV_in u2)
      have G4 : Bel wr w4 := g3.trans g4
      clear g3 g4 dk
      go_wp2_with fail
      refine (iParseInt_any u1 _ (by omega) (tabIs_bel HTB.out (HG0.out.1.trans (by (repeat (first | assumption | exact Bel.refl _ | apply Bel.drewN | apply Bel.drew | apply Bel.alloc | refine Bel.trans ?_ (by assumption)))))) (errVars_bel HER.out (HG0.out.1.trans (by (repeat (first | assumption | exact Bel.refl _ | apply Bel.drewN | apply Bel.drew | apply Bel.alloc | refine Bel.trans ?_ (by assumption))))))).mono ?_
      rintro e w5 ⟨rfl, g5⟩
      generalize (parseV u1).1 = a1 at *
      generalize (parseV u1).2 = t1 at *
      go_wp2_with fail
      refine (iParseInt_any u2 _ (by omega) (tabIs_bel HTB.out (HG0.out.1.trans (G4.trans (by (repeat (first | assumption | exact Bel.refl _ | apply Bel.drewN | apply Bel.drew | apply Bel.alloc | refine Bel.trans ?_ (by assumption))))))) (errVars_bel HER.out (HG0.out.1.trans (G4.trans (by (repeat (first | assumption | exact Bel.refl _ | apply Bel.drewN | apply Bel.drew | apply Bel.alloc | refine Bel.trans ?_ (by assumption)))))))).mono ?_
      rintro e w6 ⟨rfl, g6⟩
      generalize (parseV u2).1 = a2 at *
      generalize (parseV u2).2 = t2 at *
      have G6 : Bel wr w6 := G4.trans (g5.trans g6)
      have HDa := Lib.hid (HD0.out.bel G6)
      have HBSa := Lib.hid (HBS0.out.bel G6)
      have HBRa := Lib.hid (HBR0.out.bel G6)
      have HBPa := Lib.hid (HBP0.out.bel G6)
      have HGa := Lib.hid (show Bel w w6 ∧ True from ⟨HG0.out.1.trans G6, trivial⟩)
      have HUa := Lib.hid (HU0.out.bel G6)
      have hza := HUa.out.1
      clear g5 g6 G4 G6
      have HBAD := Lib.hid (fun (h : (o1 && (o2 && (t1 && t2))) = false) => parseSch_no (p := p) (x := x) (fun s hs => by
        have h1 := (HRD.out s hs).2.1 y HMEM.out
        rw [HWR.out] at h1
        exact absurd (h1.symm.trans h) (by decide)))
      cases o1
      · have HF := Lib.hid (HBAD.out rfl)
        have HR_w6 := HBRa
        have HG_w6 := HGa
        have zc0 := HR_w6.out.cellv (j := 0) (by simp)
        have zc1 := HR_w6.out.cellv (j := 1) (by simp)
        simp only [List.getElem_cons_zero, List.getElem_cons_succ] at zc0 zc1
        have zf0 := HR_w6.out.frozen 0
        have zf1 := HR_w6.out.frozen 1
        have Gw := HG_w6.out.1
        go_wp2_with fail
        exact bodyPost_ret (v := .tuple #[.agg #[.slice none 0 0, .slice none 0 0], .bool false]) (by simp [results, Tryz.results20, go_sem, zc0, zc1]) rfl ⟨[.slice none 0 0, .slice none 0 0], by rw [HF.out], by rw [HF.out]; exact schMR_nil _ _, by (repeat (first | assumption | exact Bel.refl _ | apply Bel.drewN | apply Bel.drew | apply Bel.alloc | refine Bel.set ?_ (by first | exact Nat.le_refl _ | exact Nat.le_add_right _ _ | (simp; done) | (simp; omega) | omega) _ | refine Bel.trans ?_ (by assumption)))⟩
      cases o2
      · have HF := Lib.hid (HBAD.out rfl)
        have HR_w6 := HBRa
        have HG_w6 := HGa
        have zc0 := HR_w6.out.cellv (j := 0) (by simp)
        have zc1 := HR_w6.out.cellv (j := 1) (by simp)
        simp only [List.getElem_cons_zero, List.getElem_cons_succ] at zc0 zc1
        have zf0 := HR_w6.out.frozen 0
        have zf1 := HR_w6.out.frozen 1
        have Gw := HG_w6.out.1
        go_wp2_with fail
        exact bodyPost_ret (v := .tuple #[.agg #[.slice none 0 0, .slice none 0 0], .bool false]) (by simp [results, Tryz.results20, go_sem, zc0, zc1]) rfl ⟨[.slice none 0 0, .slice none 0 0], by rw [HF.out], by rw [HF.out]; exact schMR_nil _ _, by (repeat (first | assumption | exact Bel.refl _ | apply Bel.drewN | apply Bel.drew | apply Bel.alloc | refine Bel.set ?_ (by first | exact Nat.le_refl _ | exact Nat.le_add_right _ _ | (simp; done) | (simp; omega) | omega) _ | refine Bel.trans ?_ (by assumption)))⟩
      cases t1
      · have HF := Lib.hid (HBAD.out rfl)
        have HR_w6 := HBRa
        have HG_w6 := HGa
        have zc0 := HR_w6.out.cellv (j := 0) (by simp)
        have zc1 := HR_w6.out.cellv (j := 1) (by simp)
        simp only [List.getElem_cons_zero, List.getElem_cons_succ] at zc0 zc1
        have zf0 := HR_w6.out.frozen 0
        have zf1 := HR_w6.out.frozen 1
        have Gw := HG_w6.out.1
        go_wp2_with fail
        exact bodyPost_ret (v := .tuple #[.agg #[.slice none 0 0, .slice none 0 0], .bool false]) (by simp [results, Tryz.results20, go_sem, zc0, zc1]) rfl ⟨[.slice none 0 0, .slice none 0 0], by rw [HF.out], by rw [HF.out]; exact schMR_nil _ _, by (repeat (first | assumption | exact Bel.refl _ | apply Bel.drewN | apply Bel.drew | apply Bel.alloc | refine Bel.set ?_ (by first | exact Nat.le_refl _ | exact Nat.le_add_right _ _ | (simp; done) | (simp; omega) | omega) _ | refine Bel.trans ?_ (by assumption)))⟩
      cases t2
      · have HF := Lib.hid (HBAD.out rfl)
        have HR_w6 := HBRa
        have HG_w6 := HGa
        have zc0 := HR_w6.out.cellv (j := 0) (by simp)
        have zc1 := HR_w6.out.cellv (j := 1) (by simp)
        simp only [List.getElem_cons_zero, List.getElem_cons_succ] at zc0 zc1
        have zf0 := HR_w6.out.frozen 0
        have zf1 := HR_w6.out.frozen 1
        have Gw := HG_w6.out.1
        go_wp2_with fail
        exact bodyPost_ret (v := .tuple #[.agg #[.slice none 0 0, .slice none 0 0], .bool false]) (by simp [results, Tryz.results20, go_sem, zc0, zc1]) rfl ⟨[.slice none 0 0, .slice none 0 0], by rw [HF.out], by rw [HF.out]; exact schMR_nil _ _, by (repeat (first | assumption | exact Bel.refl _ | apply Bel.drewN | apply Bel.drew | apply Bel.alloc | refine Bel.set ?_ (by first | exact Nat.le_refl _ | exact Nat.le_add_right _ _ | (simp; done) | (simp; omega) | omega) _ | refine Bel.trans ?_ (by assumption)))⟩
      have HYES := Lib.hid (HOK1.out (by rw [HWR.out]; rfl))
      clear HBAD
      have kc : ∀ (U : World), Blk U (w.heap.size + 1 + 1) 52 [.slice q1 X.length c1, .slice q2 Y.length c2] → ∀ W, Bel U W → W.cell? ⟨(w.heap.size + 1 + 1), 0, none⟩ = some (.slice q1 X.length c1) ∧ W.cell? ⟨(w.heap.size + 1 + 1), 1, none⟩ = some (.slice q2 Y.length c2) := fun U h1 W hW => ⟨hW.cell (by have h := h1.cellv (j := 0) (by simp); simpa using h), hW.cell (by have h := h1.cellv (j := 1) (by simp); simpa using h)⟩
      have kc := fun {U : World} => kc U
      have KCa := Lib.hid (kc HBSa.out)
      have hWW : Bel w6 w6 := Bel.refl _
      obtain ⟨sy0, sy1⟩ := KCa.out w6 (Bel.refl _)
      go_upto_region 11 with (fail)
      refine wp_region_heldM (S := (fun W => W.cell? ⟨(w.heap.size + 1 + 1), 0, none⟩ = some (.slice q1 X.length c1) ∧ W.cell? ⟨(w.heap.size + 1 + 1), 1, none⟩ = some (.slice q2 Y.length c2))) (m := 11) (by kernel_rfl) ?_ (fun hHeld => ?_)
      · ((try dsimp only); (first | (with_reducible exact KCc.out _ (by (repeat (first | assumption | exact Bel.refl _ | apply Bel.drewN | apply Bel.drew | apply Bel.alloc | refine Bel.trans ?_ (by assumption))))) | (with_reducible exact KCb.out _ (by (repeat (first | assumption | exact Bel.refl _ | apply Bel.drewN | apply Bel.drew | apply Bel.alloc | refine Bel.trans ?_ (by assumption))))) | (with_reducible exact KCa.out _ (by (repeat (first | assumption | exact Bel.refl _ | apply Bel.drewN | apply Bel.drew | apply Bel.alloc | refine Bel.trans ?_ (by assumption)))))))
      refine wpAnyM_take (i := 0) (v := ?_) rfl (by kernel_rfl) (by kernel_rfl) (by kernel_rfl) (by kernel_rfl) (fun _ _ _ h => h) (Or.inl ⟨by rfl, ?_⟩) (by assumption) ?_
      rotate_left
      · (intro w hSw; (try dsimp only at hSw); go_simp <;> with_reducible rfl)
      try walk_nrm
      refine wpAnyM_take (i := 1) (v := ?_) rfl (by kernel_rfl) (by kernel_rfl) (by kernel_rfl) (by kernel_rfl) (fun _ _ _ h => h) (Or.inl ⟨by rfl, ?_⟩) (by assumption) ?_
      rotate_left
      · (intro w hSw; (try dsimp only at hSw); go_simp <;> with_reducible rfl)
      try walk_nrm
      refine wpAnyM_take (i := 2) (v := ?_) rfl (by kernel_rfl) (by kernel_rfl) (by kernel_rfl) (by kernel_rfl) (fun _ _ _ h => h) (Or.inl ⟨by rfl, ?_⟩) (by assumption) ?_
      rotate_left
      · (intro w hSw; (try dsimp only at hSw); go_simp <;> with_reducible rfl)
      try walk_nrm
      refine wpAnyM_take (i := 5) (v := ?_) rfl (by kernel_rfl) (by kernel_rfl) (by kernel_rfl) (by kernel_rfl) (fun _ _ _ h => h) (Or.inl ⟨by rfl, ?_⟩) (by assumption) ?_
      rotate_left
      · (intro w hSw; (try dsimp only at hSw); go_simp <;> with_reducible rfl)
      try walk_nrm
      refine wpAnyM_take (i := 6) (v := ?_) rfl (by kernel_rfl) (by kernel_rfl) (by kernel_rfl) (by kernel_rfl) (fun _ _ _ h => h) (Or.inl ⟨by rfl, ?_⟩) (by assumption) ?_
      rotate_left
      · (intro w hSw; (try dsimp only at hSw); go_simp <;> with_reducible rfl)
      try walk_nrm
      refine wpAnyM_take (i := 7) (v := ?_) rfl (by kernel_rfl) (by kernel_rfl) (by kernel_rfl) (by kernel_rfl) (fun _ _ _ h => h) (Or.inl ⟨by rfl, ?_⟩) (by assumption) ?_
      rotate_left
      · (intro w hSw; (try dsimp only at hSw); go_simp <;> with_reducible rfl)
      try walk_nrm
      refine wpAnyM_ready (rs := [3, 8]) (by kernel_rfl) (by simp) ?_
      refine AllReadyM.cons rfl (fun K hK => ?_) ?_
      · go_simp
        refine hK.out _ _ ?_ (fun hHeld => ?_)
        · ((try dsimp only); (first | (with_reducible exact KCc.out _ (by (repeat (first | assumption | exact Bel.refl _ | apply Bel.drewN | apply Bel.drew | apply Bel.alloc | refine Bel.trans ?_ (by assumption))))) | (with_reducible exact KCb.out _ (by (repeat (first | assumption | exact Bel.refl _ | apply Bel.drewN | apply Bel.drew | apply Bel.alloc | refine Bel.trans ?_ (by assumption))))) | (with_reducible exact KCa.out _ (by (repeat (first | assumption | exact Bel.refl _ | apply Bel.drewN | apply Bel.drew | apply Bel.alloc | refine Bel.trans ?_ (by assumption)))))))
        clear hK K
        try walk_nrm
        refine wpAnyM_ready (rs := [4, 8]) (by kernel_rfl) (by simp) ?_
        refine AllReadyM.cons rfl (fun K hK => ?_) ?_
        · (refine step_appG (o := ⟨some 68, _, _, _, _, _⟩) (n := 1) intR_good _ (by rfl) _ _ 25 (by rfl) (.int .i64 0) 8 Tryz.underlying25 (by kernel_rfl) rfl (by decide) (by decide) q1 c1 X (a1) (by rfl) (HDa.out.o1.bel intR_good (by (repeat (first | assumption | exact Bel.refl _ | apply Bel.drewN | apply Bel.drew | apply Bel.alloc | refine Bel.trans ?_ (by assumption))))) _ 1 [.int .i64 a1] (by rfl) rfl (World.news_of_block (by first | (first | exact alloc_at (by simp) | (with_reducible exact drewK (alloc_at (by simp))) | exact allocK (alloc_at (by simp)) | (with_reducible exact drewK (allocK (alloc_at (by simp))))) | (rw [HKb.out _ (by first | omega | (simp; done) | (simp; omega)) (by first | omega | (simp; done) | (simp; omega))]; (first | exact alloc_at (by simp) | (with_reducible exact drewK (alloc_at (by simp))) | exact allocK (alloc_at (by simp)) | (with_reducible exact drewK (allocK (alloc_at (by simp)))))))) (by intro u hu; simp at hu; subst hu; rfl) (intRep HIa1.out) (by omega) (by first | omega | (simp; omega)) ?_; intro qx cx wA hOA hBA hFA; have HDb := Lib.hid ((HDa.out.bel (by (repeat (first | assumption | exact Bel.refl _ | apply Bel.drewN | apply Bel.drew | apply Bel.alloc | refine Bel.trans ?_ (by assumption))))).push1 hOA hFA); have HBSb := Lib.hid ((HBSa.out.bel (by (repeat (first | assumption | exact Bel.refl _ | apply Bel.drewN | apply Bel.drew | apply Bel.alloc | refine Bel.trans ?_ (by assumption))))).belowD hBA (by omega)); have HBRb := Lib.hid ((HBRa.out.bel (by (repeat (first | assumption | exact Bel.refl _ | apply Bel.drewN | apply Bel.drew | apply Bel.alloc | refine Bel.trans ?_ (by assumption))))).belowD hBA (by omega)); have HBPb := Lib.hid ((HBPa.out.bel (by (repeat (first | assumption | exact Bel.refl _ | apply Bel.drewN | apply Bel.drew | apply Bel.alloc | refine Bel.trans ?_ (by assumption))))).belowD hBA (by omega)); have HGb := Lib.hid (show Bel w wA ∧ True from ⟨Below.trans (Bel.trans HGa.out.1 (by (repeat (first | assumption | exact Bel.refl _ | apply Bel.drewN | apply Bel.drew | apply Bel.alloc | refine Bel.trans ?_ (by assumption))))) (Below.mono hBA (by omega)), trivial⟩); have HUb := Lib.hid ((HUa.out.bel (by (repeat (first | assumption | exact Bel.refl _ | apply Bel.drewN | apply Bel.drew | apply Bel.alloc | refine Bel.trans ?_ (by assumption))))).below hBA (Nat.le_refl _)); have hzb := HUb.out.1; have HKb := Lib.hid (fun (b : Nat) (h1 : w6.heap.size ≤ b) h2 => (hFA b h2 (fun a ha e => by have := (HDa.out.o1.lt ha).2; omega)).1); have KCb := Lib.hid (kc HBSb.out); clear hOA hBA hFA)
          refine hK.out _ _ ?_ (fun hHeld => ?_)
          · ((try dsimp only); (first | (with_reducible exact KCc.out _ (by (repeat (first | assumption | exact Bel.refl _ | apply Bel.drewN | apply Bel.drew | apply Bel.alloc | refine Bel.trans ?_ (by assumption))))) | (with_reducible exact KCb.out _ (by (repeat (first | assumption | exact Bel.refl _ | apply Bel.drewN | apply Bel.drew | apply Bel.alloc | refine Bel.trans ?_ (by assumption))))) | (with_reducible exact KCa.out _ (by (repeat (first | assumption | exact Bel.refl _ | apply Bel.drewN | apply Bel.drew | apply Bel.alloc | refine Bel.trans ?_ (by assumption)))))))
          clear hK K
          try walk_nrm
          refine wpAnyM_take (i := 10) (v := ?_) rfl (by kernel_rfl) (by kernel_rfl) (by kernel_rfl) (by kernel_rfl) (fun _ _ _ h => h) (Or.inl ⟨by rfl, ?_⟩) (by assumption) ?_
          rotate_left
          · (intro w hSw; (try dsimp only at hSw); go_simp <;> with_reducible rfl)
          try walk_nrm
          refine wpAnyM_ready (rs := [8]) (by kernel_rfl) (by simp) ?_
          refine AllReadyM.cons rfl (fun K hK => ?_) AllReadyM.nil
          · go_simp
            refine hK.out _ _ ?_ (fun hHeld => ?_)
            · ((try dsimp only); (first | (with_reducible exact KCc.out _ (by (repeat (first | assumption | exact Bel.refl _ | apply Bel.drewN | apply Bel.drew | apply Bel.alloc | refine Bel.trans ?_ (by assumption))))) | (with_reducible exact KCb.out _ (by (repeat (first | assumption | exact Bel.refl _ | apply Bel.drewN | apply Bel.drew | apply Bel.alloc | refine Bel.trans ?_ (by assumption))))) | (with_reducible exact KCa.out _ (by (repeat (first | assumption | exact Bel.refl _ | apply Bel.drewN | apply Bel.drew | apply Bel.alloc | refine Bel.trans ?_ (by assumption)))))))
            clear hK K
            try walk_nrm
            refine wpAnyM_ready (rs := [9]) (by kernel_rfl) (by simp) ?_
            refine AllReadyM.cons rfl (fun K hK => ?_) AllReadyM.nil
            · (refine step_appG (o := ⟨some 73, _, _, _, _, _⟩) (n := 1) intR_good _ (by rfl) _ _ 25 (by rfl) (.int .i64 0) 8 Tryz.underlying25 (by kernel_rfl) rfl (by decide) (by decide) q2 c2 Y (a2) (by rfl) (HDb.out.o2.bel intR_good (by (repeat (first | assumption | exact Bel.refl _ | apply Bel.drewN | apply Bel.drew | apply Bel.alloc | refine Bel.trans ?_ (by assumption))))) _ 1 [.int .i64 a2] (by rfl) rfl (World.news_of_block (by first | (first | exact alloc_at (by simp) | (with_reducible exact drewK (alloc_at (by simp))) | exact allocK (alloc_at (by simp)) | (with_reducible exact drewK (allocK (alloc_at (by simp))))) | (rw [HKb.out _ (by first | omega | (simp; done) | (simp; omega)) (by first | omega | (simp; done) | (simp; omega))]; (first | exact alloc_at (by simp) | (with_reducible exact drewK (alloc_at (by simp))) | exact allocK (alloc_at (by simp)) | (with_reducible exact drewK (allocK (alloc_at (by simp)))))))) (by intro u hu; simp at hu; subst hu; rfl) (intRep HIa2.out) (by omega) (by first | omega | (simp; omega)) ?_; intro qy cy wB hOA hBA hFA; have HDc := Lib.hid ((HDb.out.bel (by (repeat (first | assumption | exact Bel.refl _ | apply Bel.drewN | apply Bel.drew | apply Bel.alloc | refine Bel.trans ?_ (by assumption))))).push2 hOA hFA); have HBSc := Lib.hid ((HBSb.out.bel (by (repeat (first | assumption | exact Bel.refl _ | apply Bel.drewN | apply Bel.drew | apply Bel.alloc | refine Bel.trans ?_ (by assumption))))).belowD hBA (by omega)); have HBRc := Lib.hid ((HBRb.out.bel (by (repeat (first | assumption | exact Bel.refl _ | apply Bel.drewN | apply Bel.drew | apply Bel.alloc | refine Bel.trans ?_ (by assumption))))).belowD hBA (by omega)); have HBPc := Lib.hid ((HBPb.out.bel (by (repeat (first | assumption | exact Bel.refl _ | apply Bel.drewN | apply Bel.drew | apply Bel.alloc | refine Bel.trans ?_ (by assumption))))).belowD hBA (by omega)); have HGc := Lib.hid (show Bel w wB ∧ True from ⟨Below.trans (Bel.trans HGb.out.1 (by (repeat (first | assumption | exact Bel.refl _ | apply Bel.drewN | apply Bel.drew | apply Bel.alloc | refine Bel.trans ?_ (by assumption))))) (Below.mono hBA (by omega)), trivial⟩); have HUc := Lib.hid ((HUb.out.bel (by (repeat (first | assumption | exact Bel.refl _ | apply Bel.drewN | apply Bel.drew | apply Bel.alloc | refine Bel.trans ?_ (by assumption))))).below hBA (Nat.le_refl _)); have hzc := HUc.out.1; have HKc := Lib.hid (fun (b : Nat) (h1 : w6.heap.size ≤ b) h2 => (hFA b h2 (fun a ha e => by have := (HDa.out.o2.lt ha).2; omega)).1); have KCc := Lib.hid (kc HBSc.out); clear hOA hBA hFA; have fs0 := HBSc.out.frozen 0; have fs1 := HBSc.out.frozen 1; obtain ⟨sz0, sz1⟩ := KCc.out wB (Bel.refl _))
              refine hK.out _ _ ?_ (fun hHeld => ?_)
              · ((try dsimp only); (first | (with_reducible exact KCc.out _ (by (repeat (first | assumption | exact Bel.refl _ | apply Bel.drewN | apply Bel.drew | apply Bel.alloc | refine Bel.trans ?_ (by assumption))))) | (with_reducible exact KCb.out _ (by (repeat (first | assumption | exact Bel.refl _ | apply Bel.drewN | apply Bel.drew | apply Bel.alloc | refine Bel.trans ?_ (by assumption))))) | (with_reducible exact KCa.out _ (by (repeat (first | assumption | exact Bel.refl _ | apply Bel.drewN | apply Bel.drew | apply Bel.alloc | refine Bel.trans ?_ (by assumption)))))))
              clear hK K
              try walk_nrm
              refine wpAnyM_ready (rs := [11]) (by kernel_rfl) (by simp) ?_
              refine AllReadyM.free rfl (by kernel_rfl) (fun K hK => ?_) AllReadyM.nil
              · go_simp
                refine hK.out _ _ ?_
                clear hK K
                try walk_nrm
                refine wpAnyM_ready (rs := [12]) (by kernel_rfl) (by simp) ?_
                refine AllReadyM.free rfl (by kernel_rfl) (fun K hK => ?_) AllReadyM.nil
                · go_simp
                  refine hK.out _ _ ?_
                  clear hK K
                  try walk_nrm
                  refine wpAnyM_ready (rs := [13]) (by kernel_rfl) (by simp) ?_
                  refine AllReadyM.free rfl (by kernel_rfl) (fun K hK => ?_) AllReadyM.nil
                  · go_simp
                    refine hK.out _ _ ?_
                    clear hK K
                    try walk_nrm
                    refine wpAnyM_done (by kernel_rfl) ?_ _
                    go_wp2_with fail
                    exact ⟨⟨k + 1, X ++ [a1], Y ++ [a2], qx, cx, qy, cy, by omega, by go_num, HYES.out, by rw [HXS.out, ← HX.out, HWR.out], by rw [HYS.out, ← HY.out, HWR.out], by rw [List.length_append, List.length_append]; exact ((HBSc.out.set 0 (.slice qx (X.length + 1) cx)).set 1 (.slice qy (Y.length + 1) cy)), ((HBRc.out.setAt (q := (w.heap.size + 1 + 1)) (by omega) 0 (.slice qx (X.length + 1) cx)).setAt (q := (w.heap.size + 1 + 1)) (by omega) 1 (.slice qy (Y.length + 1) cy)), ((HBPc.out.setAt (q := (w.heap.size + 1 + 1)) (by omega) 0 (.slice qx (X.length + 1) cx)).setAt (q := (w.heap.size + 1 + 1)) (by omega) 1 (.slice qy (Y.length + 1) cy)), HDc.out.hi (((Hi.refl w1.heap.size wB).set (q := (w.heap.size + 1 + 1)) (j := 0) (.slice qx (X.length + 1) cx) (.inl (by omega))).set (q := (w.heap.size + 1 + 1)) (j := 1) (.slice qy (Y.length + 1) cy) (.inl (by omega))), ((HGc.out.1.set (p := ⟨(w.heap.size + 1 + 1), 0, none⟩) (show w.heap.size ≤ (w.heap.size + 1 + 1) from by omega) (.slice qx (X.length + 1) cx)).set (p := ⟨(w.heap.size + 1 + 1), 1, none⟩) (show w.heap.size ≤ (w.heap.size + 1 + 1) from by omega) (.slice qy (Y.length + 1) cy)), ((HUc.out.put 0 (.slice qx (X.length + 1) cx)).put 1 (.slice qy (Y.length + 1) cy))⟩, by simp [intOf]; omega⟩
        refine AllReadyM.cons rfl (fun K hK => ?_) AllReadyM.nil
        · go_simp
          refine hK.out _ _ ?_ (fun hHeld => ?_)
          · ((try dsimp only); (first | (with_reducible exact KCc.out _ (by (repeat (first | assumption | exact Bel.refl _ | apply Bel.drewN | apply Bel.drew | apply Bel.alloc | refine Bel.trans ?_ (by assumption))))) | (with_reducible exact KCb.out _ (by (repeat (first | assumption | exact Bel.refl _ | apply Bel.drewN | apply Bel.drew | apply Bel.alloc | refine Bel.trans ?_ (by assumption))))) | (with_reducible exact KCa.out _ (by (repeat (first | assumption | exact Bel.refl _ | apply Bel.drewN | apply Bel.drew | apply Bel.alloc | refine Bel.trans ?_ (by assumption)))))))
          clear hK K
          try walk_nrm
          refine wpAnyM_ready (rs := [4]) (by kernel_rfl) (by simp) ?_
          refine AllReadyM.cons rfl (fun K hK => ?_) AllReadyM.nil
          · (refine step_appG (o := ⟨some 68, _, _, _, _, _⟩) (n := 1) intR_good _ (by rfl) _ _ 25 (by rfl) (.int .i64 0) 8 Tryz.underlying25 (by kernel_rfl) rfl (by decide) (by decide) q1 c1 X (a1) (by rfl) (HDa.out.o1.bel intR_good (by (repeat (first | assumption | exact Bel.refl _ | apply Bel.drewN | apply Bel.drew | apply Bel.alloc | refine Bel.trans ?_ (by assumption))))) _ 1 [.int .i64 a1] (by rfl) rfl (World.news_of_block (by first | (first | exact alloc_at (by simp) | (with_reducible exact drewK (alloc_at (by simp))) | exact allocK (alloc_at (by simp)) | (with_reducible exact drewK (allocK (alloc_at (by simp))))) | (rw [HKb.out _ (by first | omega | (simp; done) | (simp; omega)) (by first | omega | (simp; done) | (simp; omega))]; (first | exact alloc_at (by simp) | (with_reducible exact drewK (alloc_at (by simp))) | exact allocK (alloc_at (by simp)) | (with_reducible exact drewK (allocK (alloc_at (by simp)))))))) (by intro u hu; simp at hu; subst hu; rfl) (intRep HIa1.out) (by omega) (by first | omega | (simp; omega)) ?_; intro qx cx wA hOA hBA hFA; have HDb := Lib.hid ((HDa.out.bel (by (repeat (first | assumption | exact Bel.refl _ | apply Bel.drewN | apply Bel.drew | apply Bel.alloc | refine Bel.trans ?_ (by assumption))))).push1 hOA hFA); have HBSb := Lib.hid ((HBSa.out.bel (by (repeat (first | assumption | exact Bel.refl _ | apply Bel.drewN | apply Bel.drew | apply Bel.alloc | refine Bel.trans ?_ (by assumption))))).belowD hBA (by omega)); have HBRb := Lib.hid ((HBRa.out.bel (by (repeat (first | assumption | exact Bel.refl _ | apply Bel.drewN | apply Bel.drew | apply Bel.alloc | refine Bel.trans ?_ (by assumption))))).belowD hBA (by omega)); have HBPb := Lib.hid ((HBPa.out.bel (by (repeat (first | assumption | exact Bel.refl _ | apply Bel.drewN | apply Bel.drew | apply Bel.alloc | refine Bel.trans ?_ (by assumption))))).belowD hBA (by omega)); have HGb := Lib.hid (show Bel w wA ∧ True from ⟨Below.trans (Bel.trans HGa.out.1 (by (repeat (first | assumption | exact Bel.refl _ | apply Bel.drewN | apply Bel.drew | apply Bel.alloc | refine Bel.trans ?_ (by assumption))))) (Below.mono hBA (by omega)), trivial⟩); have HUb := Lib.hid ((HUa.out.bel (by (repeat (first | assumption | exact Bel.refl _ | apply Bel.drewN | apply Bel.drew | apply Bel.alloc | refine Bel.trans ?_ (by assumption))))).below hBA (Nat.le_refl _)); have hzb := HUb.out.1; have HKb := Lib.hid (fun (b : Nat) (h1 : w6.heap.size ≤ b) h2 => (hFA b h2 (fun a ha e => by have := (HDa.out.o1.lt ha).2; omega)).1); have KCb := Lib.hid (kc HBSb.out); clear hOA hBA hFA)
            refine hK.out _ _ ?_ (fun hHeld => ?_)
            · ((try dsimp only); (first | (with_reducible exact KCc.out _ (by (repeat (first | assumption | exact Bel.refl _ | apply Bel.drewN | apply Bel.drew | apply Bel.alloc | refine Bel.trans ?_ (by assumption))))) | (with_reducible exact KCb.out _ (by (repeat (first | assumption | exact Bel.refl _ | apply Bel.drewN | apply Bel.drew | apply Bel.alloc | refine Bel.trans ?_ (by assumption))))) | (with_reducible exact KCa.out _ (by (repeat (first | assumption | exact Bel.refl _ | apply Bel.drewN | apply Bel.drew | apply Bel.alloc | refine Bel.trans ?_ (by assumption)))))))
            clear hK K
            try walk_nrm
            refine wpAnyM_take (i := 10) (v := ?_) rfl (by kernel_rfl) (by kernel_rfl) (by kernel_rfl) (by kernel_rfl) (fun _ _ _ h => h) (Or.inl ⟨by rfl, ?_⟩) (by assumption) ?_
            rotate_left
            · (intro w hSw; (try dsimp only at hSw); go_simp <;> with_reducible rfl)
            try walk_nrm
            refine wpAnyM_ready (rs := [9]) (by kernel_rfl) (by simp) ?_
            refine AllReadyM.cons rfl (fun K hK => ?_) AllReadyM.nil
            · (refine step_appG (o := ⟨some 73, _, _, _, _, _⟩) (n := 1) intR_good _ (by rfl) _ _ 25 (by rfl) (.int .i64 0) 8 Tryz.underlying25 (by kernel_rfl) rfl (by decide) (by decide) q2 c2 Y (a2) (by rfl) (HDb.out.o2.bel intR_good (by (repeat (first | assumption | exact Bel.refl _ | apply Bel.drewN | apply Bel.drew | apply Bel.alloc | refine Bel.trans ?_ (by assumption))))) _ 1 [.int .i64 a2] (by rfl) rfl (World.news_of_block (by first | (first | exact alloc_at (by simp) | (with_reducible exact drewK (alloc_at (by simp))) | exact allocK (alloc_at (by simp)) | (with_reducible exact drewK (allocK (alloc_at (by simp))))) | (rw [HKb.out _ (by first | omega | (simp; done) | (simp; omega)) (by first | omega | (simp; done) | (simp; omega))]; (first | exact alloc_at (by simp) | (with_reducible exact drewK (alloc_at (by simp))) | exact allocK (alloc_at (by simp)) | (with_reducible exact drewK (allocK (alloc_at (by simp)))))))) (by intro u hu; simp at hu; subst hu; rfl) (intRep HIa2.out) (by omega) (by first | omega | (simp; omega)) ?_; intro qy cy wB hOA hBA hFA; have HDc := Lib.hid ((HDb.out.bel (by (repeat (first | assumption | exact Bel.refl _ | apply Bel.drewN | apply Bel.drew | apply Bel.alloc | refine Bel.trans ?_ (by assumption))))).push2 hOA hFA); have HBSc := Lib.hid ((HBSb.out.bel (by (repeat (first | assumption | exact Bel.refl _ | apply Bel.drewN | apply Bel.drew | apply Bel.alloc | refine Bel.trans ?_ (by assumption))))).belowD hBA (by omega)); have HBRc := Lib.hid ((HBRb.out.bel (by (repeat (first | assumption | exact Bel.refl _ | apply Bel.drewN | apply Bel.drew | apply Bel.alloc | refine Bel.trans ?_ (by assumption))))).belowD hBA (by omega)); have HBPc := Lib.hid ((HBPb.out.bel (by (repeat (first | assumption | exact Bel.refl _ | apply Bel.drewN | apply Bel.drew | apply Bel.alloc | refine Bel.trans ?_ (by assumption))))).belowD hBA (by omega)); have HGc := Lib.hid (show Bel w wB ∧ True from ⟨Below.trans (Bel.trans HGb.out.1 (by (repeat (first | assumption | exact Bel.refl _ | apply Bel.drewN | apply Bel.drew | apply Bel.alloc | refine Bel.trans ?_ (by assumption))))) (Below.mono hBA (by omega)), trivial⟩); have HUc := Lib.hid ((HUb.out.bel (by (repeat (first | assumption | exact Bel.refl _ | apply Bel.drewN | apply Bel.drew | apply Bel.alloc | refine Bel.trans ?_ (by assumption))))).below hBA (Nat.le_refl _)); have hzc := HUc.out.1; have HKc := Lib.hid (fun (b : Nat) (h1 : w6.heap.size ≤ b) h2 => (hFA b h2 (fun a ha e => by have := (HDa.out.o2.lt ha).2; omega)).1); have KCc := Lib.hid (kc HBSc.out); clear hOA hBA hFA; have fs0 := HBSc.out.frozen 0; have fs1 := HBSc.out.frozen 1; obtain ⟨sz0, sz1⟩ := KCc.out wB (Bel.refl _))
              refine hK.out _ _ ?_ (fun hHeld => ?_)
              · ((try dsimp only); (first | (with_reducible exact KCc.out _ (by (repeat (first | assumption | exact Bel.refl _ | apply Bel.drewN | apply Bel.drew | apply Bel.alloc | refine Bel.trans ?_ (by assumption))))) | (with_reducible exact KCb.out _ (by (repeat (first | assumption | exact Bel.refl _ | apply Bel.drewN | apply Bel.drew | apply Bel.alloc | refine Bel.trans ?_ (by assumption))))) | (with_reducible exact KCa.out _ (by (repeat (first | assumption | exact Bel.refl _ | apply Bel.drewN | apply Bel.drew | apply Bel.alloc | refine Bel.trans ?_ (by assumption)))))))
              clear hK K
              try walk_nrm
              refine wpAnyM_ready (rs := [11]) (by kernel_rfl) (by simp) ?_
              refine AllReadyM.free rfl (by kernel_rfl) (fun K hK => ?_) AllReadyM.nil
              · go_simp
                refine hK.out _ _ ?_
                clear hK K
                try walk_nrm
                refine wpAnyM_ready (rs := [12]) (by kernel_rfl) (by simp) ?_
                refine AllReadyM.free rfl (by kernel_rfl) (fun K hK => ?_) AllReadyM.nil
                · go_simp
                  refine hK.out _ _ ?_
                  clear hK K
                  try walk_nrm
                  refine wpAnyM_ready (rs := [13]) (by kernel_rfl) (by simp) ?_
                  refine AllReadyM.free rfl (by kernel_rfl) (fun K hK => ?_) AllReadyM.nil
                  · go_simp
                    refine hK.out _ _ ?_
                    clear hK K
                    try walk_nrm
                    refine wpAnyM_done (by kernel_rfl) ?_ _
                    go_wp2_with fail
                    exact ⟨⟨k + 1, X ++ [a1], Y ++ [a2], qx, cx, qy, cy, by omega, by go_num, HYES.out, by rw [HXS.out, ← HX.out, HWR.out], by rw [HYS.out, ← HY.out, HWR.out], by rw [List.length_append, List.length_append]; exact ((HBSc.out.set 0 (.slice qx (X.length + 1) cx)).set 1 (.slice qy (Y.length + 1) cy)), ((HBRc.out.setAt (q := (w.heap.size + 1 + 1)) (by omega) 0 (.slice qx (X.length + 1) cx)).setAt (q := (w.heap.size + 1 + 1)) (by omega) 1 (.slice qy (Y.length + 1) cy)), ((HBPc.out.setAt (q := (w.heap.size + 1 + 1)) (by omega) 0 (.slice qx (X.length + 1) cx)).setAt (q := (w.heap.size + 1 + 1)) (by omega) 1 (.slice qy (Y.length + 1) cy)), HDc.out.hi (((Hi.refl w1.heap.size wB).set (q := (w.heap.size + 1 + 1)) (j := 0) (.slice qx (X.length + 1) cx) (.inl (by omega))).set (q := (w.heap.size + 1 + 1)) (j := 1) (.slice qy (Y.length + 1) cy) (.inl (by omega))), ((HGc.out.1.set (p := ⟨(w.heap.size + 1 + 1), 0, none⟩) (show w.heap.size ≤ (w.heap.size + 1 + 1) from by omega) (.slice qx (X.length + 1) cx)).set (p := ⟨(w.heap.size + 1 + 1), 1, none⟩) (show w.heap.size ≤ (w.heap.size + 1 + 1) from by omega) (.slice qy (Y.length + 1) cy)), ((HUc.out.put 0 (.slice qx (X.length + 1) cx)).put 1 (.slice qy (Y.length + 1) cy))⟩, by simp [intOf]; omega⟩
      refine AllReadyM.cons rfl (fun K hK => ?_) AllReadyM.nil
      · go_simp
        refine hK.out _ _ ?_ (fun hHeld => ?_)
        · ((try dsimp only); (first | (with_reducible exact KCc.out _ (by (repeat (first | assumption | exact Bel.refl _ | apply Bel.drewN | apply Bel.drew | apply Bel.alloc | refine Bel.trans ?_ (by assumption))))) | (with_reducible exact KCb.out _ (by (repeat (first | assumption | exact Bel.refl _ | apply Bel.drewN | apply Bel.drew | apply Bel.alloc | refine Bel.trans ?_ (by assumption))))) | (with_reducible exact KCa.out _ (by (repeat (first | assumption | exact Bel.refl _ | apply Bel.drewN | apply Bel.drew | apply Bel.alloc | refine Bel.trans ?_ (by assumption)))))))
        clear hK K
        try walk_nrm
        refine wpAnyM_ready (rs := [3]) (by kernel_rfl) (by simp) ?_
        refine AllReadyM.cons rfl (fun K hK => ?_) AllReadyM.nil
        · go_simp
          refine hK.out _ _ ?_ (fun hHeld => ?_)
          · ((try dsimp only); (first | (with_reducible exact KCc.out _ (by (repeat (first | assumption | exact Bel.refl _ | apply Bel.drewN | apply Bel.drew | apply Bel.alloc | refine Bel.trans ?_ (by assumption))))) | (with_reducible exact KCb.out _ (by (repeat (first | assumption | exact Bel.refl _ | apply Bel.drewN | apply Bel.drew | apply Bel.alloc | refine Bel.trans ?_ (by assumption))))) | (with_reducible exact KCa.out _ (by (repeat (first | assumption | exact Bel.refl _ | apply Bel.drewN | apply Bel.drew | apply Bel.alloc | refine Bel.trans ?_ (by assumption)))))))
          clear hK K
          try walk_nrm
          refine wpAnyM_ready (rs := [4]) (by kernel_rfl) (by simp) ?_
          refine AllReadyM.cons rfl (fun K hK => ?_) AllReadyM.nil
          · (refine step_appG (o := ⟨some 68, _, _, _, _, _⟩) (n := 1) intR_good _ (by rfl) _ _ 25 (by rfl) (.int .i64 0) 8 Tryz.underlying25 (by kernel_rfl) rfl (by decide) (by decide) q1 c1 X (a1) (by rfl) (HDa.out.o1.bel intR_good (by (repeat (first | assumption | exact Bel.refl _ | apply Bel.drewN | apply Bel.drew | apply Bel.alloc | refine Bel.trans ?_ (by assumption))))) _ 1 [.int .i64 a1] (by rfl) rfl (World.news_of_block (by first | (first | exact alloc_at (by simp) | (with_reducible exact drewK (alloc_at (by simp))) | exact allocK (alloc_at (by simp)) | (with_reducible exact drewK (allocK (alloc_at (by simp))))) | (rw [HKb.out _ (by first | omega | (simp; done) | (simp; omega)) (by first | omega | (simp; done) | (simp; omega))]; (first | exact alloc_at (by simp) | (with_reducible exact drewK (alloc_at (by simp))) | exact allocK (alloc_at (by simp)) | (with_reducible exact drewK (allocK (alloc_at (by simp)))))))) (by intro u hu; simp at hu; subst hu; rfl) (intRep HIa1.out) (by omega) (by first | omega | (simp; omega)) ?_; intro qx cx wA hOA hBA hFA; have HDb := Lib.hid ((HDa.out.bel (by (repeat (first | assumption | exact Bel.refl _ | apply Bel.drewN | apply Bel.drew | apply Bel.alloc | refine Bel.trans ?_ (by assumption))))).push1 hOA hFA); have HBSb := Lib.hid ((HBSa.out.bel (by (repeat (first | assumption | exact Bel.refl _ | apply Bel.drewN | apply Bel.drew | apply Bel.alloc | refine Bel.trans ?_ (by assumption))))).belowD hBA (by omega)); have HBRb := Lib.hid ((HBRa.out.bel (by (repeat (first | assumption | exact Bel.refl _ | apply Bel.drewN | apply Bel.drew | apply Bel.alloc | refine Bel.trans ?_ (by assumption))))).belowD hBA (by omega)); have HBPb := Lib.hid ((HBPa.out.bel (by (repeat (first | assumption | exact Bel.refl _ | apply Bel.drewN | apply Bel.drew | apply Bel.alloc | refine Bel.trans ?_ (by assumption))))).belowD hBA (by omega)); have HGb := Lib.hid (show Bel w wA ∧ True from ⟨Below.trans (Bel.trans HGa.out.1 (by (repeat (first | assumption | exact Bel.refl _ | apply Bel.drewN | apply Bel.drew | apply Bel.alloc | refine Bel.trans ?_ (by assumption))))) (Below.mono hBA (by omega)), trivial⟩); have HUb := Lib.hid ((HUa.out.bel (by (repeat (first | assumption | exact Bel.refl _ | apply Bel.drewN | apply Bel.drew | apply Bel.alloc | refine Bel.trans ?_ (by assumption))))).below hBA (Nat.le_refl _)); have hzb := HUb.out.1; have HKb := Lib.hid (fun (b : Nat) (h1 : w6.heap.size ≤ b) h2 => (hFA b h2 (fun a ha e => by have := (HDa.out.o1.lt ha).2; omega)).1); have KCb := Lib.hid (kc HBSb.out); clear hOA hBA hFA)
            refine hK.out _ _ ?_ (fun hHeld => ?_)
            · ((try dsimp only); (first | (with_reducible exact KCc.out _ (by (repeat (first | assumption | exact Bel.refl _ | apply Bel.drewN | apply Bel.drew | apply Bel.alloc | refine Bel.trans ?_ (by assumption))))) | (with_reducible exact KCb.out _ (by (repeat (first | assumption | exact Bel.refl _ | apply Bel.drewN | apply Bel.drew | apply Bel.alloc | refine Bel.trans ?_ (by assumption))))) | (with_reducible exact KCa.out _ (by (repeat (first | assumption | exact Bel.refl _ | apply Bel.drewN | apply Bel.drew | apply Bel.alloc | refine Bel.trans ?_ (by assumption)))))))
            clear hK K
            try walk_nrm
            refine wpAnyM_take (i := 10) (v := ?_) rfl (by kernel_rfl) (by kernel_rfl) (by kernel_rfl) (by kernel_rfl) (fun _ _ _ h => h) (Or.inl ⟨by rfl, ?_⟩) (by assumption) ?_
            rotate_left
            · (intro w hSw; (try dsimp only at hSw); go_simp <;> with_reducible rfl)
            try walk_nrm
            refine wpAnyM_ready (rs := [9]) (by kernel_rfl) (by simp) ?_
            refine AllReadyM.cons rfl (fun K hK => ?_) AllReadyM.nil
            · (refine step_appG (o := ⟨some 73, _, _, _, _, _⟩) (n := 1) intR_good _ (by rfl) _ _ 25 (by rfl) (.int .i64 0) 8 Tryz.underlying25 (by kernel_rfl) rfl (by decide) (by decide) q2 c2 Y (a2) (by rfl) (HDb.out.o2.bel intR_good (by (repeat (first | assumption | exact Bel.refl _ | apply Bel.drewN | apply Bel.drew | apply Bel.alloc | refine Bel.trans ?_ (by assumption))))) _ 1 [.int .i64 a2] (by rfl) rfl (World.news_of_block (by first | (first | exact alloc_at (by simp) | (with_reducible exact drewK (alloc_at (by simp))) | exact allocK (alloc_at (by simp)) | (with_reducible exact drewK (allocK (alloc_at (by simp))))) | (rw [HKb.out _ (by first | omega | (simp; done) | (simp; omega)) (by first | omega | (simp; done) | (simp; omega))]; (first | exact alloc_at (by simp) | (with_reducible exact drewK (alloc_at (by simp))) | exact allocK (alloc_at (by simp)) | (with_reducible exact drewK (allocK (alloc_at (by simp)))))))) (by intro u hu; simp at hu; subst hu; rfl) (intRep HIa2.out) (by omega) (by first | omega | (simp; omega)) ?_; intro qy cy wB hOA hBA hFA; have HDc := Lib.hid ((HDb.out.bel (by (repeat (first | assumption | exact Bel.refl _ | apply Bel.drewN | apply Bel.drew | apply Bel.alloc | refine Bel.trans ?_ (by assumption))))).push2 hOA hFA); have HBSc := Lib.hid ((HBSb.out.bel (by (repeat (first | assumption | exact Bel.refl _ | apply Bel.drewN | apply Bel.drew | apply Bel.alloc | refine Bel.trans ?_ (by assumption))))).belowD hBA (by omega)); have HBRc := Lib.hid ((HBRb.out.bel (by (repeat (first | assumption | exact Bel.refl _ | apply Bel.drewN | apply Bel.drew | apply Bel.alloc | refine Bel.trans ?_ (by assumption))))).belowD hBA (by omega)); have HBPc := Lib.hid ((HBPb.out.bel (by (repeat (first | assumption | exact Bel.refl _ | apply Bel.drewN | apply Bel.drew | apply Bel.alloc | refine Bel.trans ?_ (by assumption))))).belowD hBA (by omega)); have HGc := Lib.hid (show Bel w wB ∧ True from ⟨Below.trans (Bel.trans HGb.out.1 (by (repeat (first | assumption | exact Bel.refl _ | apply Bel.drewN | apply Bel.drew | apply Bel.alloc | refine Bel.trans ?_ (by assumption))))) (Below.mono hBA (by omega)), trivial⟩); have HUc := Lib.hid ((HUb.out.bel (by (repeat (first | assumption | exact Bel.refl _ | apply Bel.drewN | apply Bel.drew | apply Bel.alloc | refine Bel.trans ?_ (by assumption))))).below hBA (Nat.le_refl _)); have hzc := HUc.out.1; have HKc := Lib.hid (fun (b : Nat) (h1 : w6.heap.size ≤ b) h2 => (hFA b h2 (fun a ha e => by have := (HDa.out.o2.lt ha).2; omega)).1); have KCc := Lib.hid (kc HBSc.out); clear hOA hBA hFA; have fs0 := HBSc.out.frozen 0; have fs1 := HBSc.out.frozen 1; obtain ⟨sz0, sz1⟩ := KCc.out wB (Bel.refl _))
              refine hK.out _ _ ?_ (fun hHeld => ?_)
              · ((try dsimp only); (first | (with_reducible exact KCc.out _ (by (repeat (first | assumption | exact Bel.refl _ | apply Bel.drewN | apply Bel.drew | apply Bel.alloc | refine Bel.trans ?_ (by assumption))))) | (with_reducible exact KCb.out _ (by (repeat (first | assumption | exact Bel.refl _ | apply Bel.drewN | apply Bel.drew | apply Bel.alloc | refine Bel.trans ?_ (by assumption))))) | (with_reducible exact KCa.out _ (by (repeat (first | assumption | exact Bel.refl _ | apply Bel.drewN | apply Bel.drew | apply Bel.alloc | refine Bel.trans ?_ (by assumption)))))))
              clear hK K
              try walk_nrm
              refine wpAnyM_ready (rs := [11]) (by kernel_rfl) (by simp) ?_
              refine AllReadyM.free rfl (by kernel_rfl) (fun K hK => ?_) AllReadyM.nil
              · go_simp
                refine hK.out _ _ ?_
                clear hK K
                try walk_nrm
                refine wpAnyM_ready (rs := [12]) (by kernel_rfl) (by simp) ?_
                refine AllReadyM.free rfl (by kernel_rfl) (fun K hK => ?_) AllReadyM.nil
                · go_simp
                  refine hK.out _ _ ?_
                  clear hK K
                  try walk_nrm
                  refine wpAnyM_ready (rs := [13]) (by kernel_rfl) (by simp) ?_
                  refine AllReadyM.free rfl (by kernel_rfl) (fun K hK => ?_) AllReadyM.nil
                  · go_simp
                    refine hK.out _ _ ?_
                    clear hK K
                    try walk_nrm
                    refine wpAnyM_done (by kernel_rfl) ?_ _
                    go_wp2_with fail
                    exact ⟨⟨k + 1, X ++ [a1], Y ++ [a2], qx, cx, qy, cy, by omega, by go_num, HYES.out, by rw [HXS.out, ← HX.out, HWR.out], by rw [HYS.out, ← HY.out, HWR.out], by rw [List.length_append, List.length_append]; exact ((HBSc.out.set 0 (.slice qx (X.length + 1) cx)).set 1 (.slice qy (Y.length + 1) cy)), ((HBRc.out.setAt (q := (w.heap.size + 1 + 1)) (by omega) 0 (.slice qx (X.length + 1) cx)).setAt (q := (w.heap.size + 1 + 1)) (by omega) 1 (.slice qy (Y.length + 1) cy)), ((HBPc.out.setAt (q := (w.heap.size + 1 + 1)) (by omega) 0 (.slice qx (X.length + 1) cx)).setAt (q := (w.heap.size + 1 + 1)) (by omega) 1 (.slice qy (Y.length + 1) cy)), HDc.out.hi (((Hi.refl w1.heap.size wB).set (q := (w.heap.size + 1 + 1)) (j := 0) (.slice qx (X.length + 1) cx) (.inl (by omega))).set (q := (w.heap.size + 1 + 1)) (j := 1) (.slice qy (Y.length + 1) cy) (.inl (by omega))), ((HGc.out.1.set (p := ⟨(w.heap.size + 1 + 1), 0, none⟩) (show w.heap.size ≤ (w.heap.size + 1 + 1) from by omega) (.slice qx (X.length + 1) cx)).set (p := ⟨(w.heap.size + 1 + 1), 1, none⟩) (show w.heap.size ≤ (w.heap.size + 1 + 1) from by omega) (.slice qy (Y.length + 1) cy)), ((HUc.out.put 0 (.slice qx (X.length + 1) cx)).put 1 (.slice qy (Y.length + 1) cy))⟩, by simp [intOf]; omega⟩
    · obtain rfl : ws.length = k := by omega
      have HNX := Lib.hid (HNE.out (HOK.out 0 (by omega)))
      have HC := Lib.hid (fun s (h : SchOf p x s) => (show s = (X, Y) ∧ x ≠ ⟨#[]⟩ from ⟨by rw [HX.out, HY.out, List.take_length]; exact (HRD.out s h).1, (HRD.out s h).2.2⟩))
      have HSR_wr := Lib.hid HD0.out.done
      have HG_wr := Lib.hid HG0.out
      have HR_wr := Lib.hid HBR0.out
      have HBS_wr := Lib.hid HBS0.out
      have HBP_wr := Lib.hid HBP0.out
      have hz_wr : wr.heap.size ≤ wr.heap.size := Nat.le_refl _
      obtain ⟨Fm, hFm⟩ : ∃ z, fmtSchV p (X, Y) = z := ⟨_, rfl⟩
      have HFM := Lib.hid hFm
      clear hFm
      have uc0 := HBP_wr.out.cellv (j := 0) (by simp)
      have uc1 := HBP_wr.out.cellv (j := 1) (by simp)
      have uc2 := HBP_wr.out.cellv (j := 2) (by simp)
      have uc3 := HBP_wr.out.cellv (j := 3) (by simp)
      have uc4 := HBP_wr.out.cellv (j := 4) (by simp)
      simp only [List.getElem_cons_zero, List.getElem_cons_succ] at uc0 uc1 uc2 uc3 uc4
      have sc0 := HBS_wr.out.cellv (j := 0) (by simp)
      have sc1 := HBS_wr.out.cellv (j := 1) (by simp)
      simp only [List.getElem_cons_zero, List.getElem_cons_succ] at sc0 sc1
      go_wp2_with fail
      refine (iFormatSchedule_all _ p S _ (X, Y) (fun b => w1.heap.size ≤ b ∧ b < wr.heap.size) _ (HPR.out _ HG_wr.out.1).1 (HPR.out _ HG_wr.out.1).2 (aggR_mk (schMR_rep HSR_wr.out)) (fun b hb => by have := hb.2; omega) (tabIs_bel HTB.out HG_wr.out.1)).mono ?_
      rintro e wf ⟨rfl, gf⟩
      rw [HFM.out]
      clear uc0 uc1 uc2 uc3 uc4 sc0 sc1
      have HG_wf := Lib.hid (show Bel w wf ∧ True from ⟨HG_wr.out.1.trans gf, trivial⟩)
      have HSR_wf := Lib.hid (schMR_good.bel HSR_wr.out gf (fun b hb => by have := hb.2; omega))
      have HR_wf := Lib.hid (HR_wr.out.bel gf)
      have HBS_wf := Lib.hid (HBS_wr.out.bel gf)
      have HBP_wf := Lib.hid (HBP_wr.out.bel gf)
      have hz_wf : wr.heap.size ≤ wf.heap.size := Nat.le_trans hz_wr gf.size
      clear gf
      by_cases h1 : Fm = x
      · have HF := Lib.hid (parseSch_of (schOf_fmt (HFM.out.trans h1) HNX.out))
        have hE2 : (Fm.toList == x.toList) = true := by rw [h1]; simp
        clear h1
        have HBF := Lib.hid ((HR_wf.out.set 0 (.slice q1 X.length c1)).set 1 (.slice q2 Y.length c2))
        have HIF := Lib.hid (((Hi.refl w1.heap.size wf).set (q := (w.heap.size + 1)) (j := 0) (.slice q1 X.length c1) (.inl (by omega))).set (q := (w.heap.size + 1)) (j := 1) (.slice q2 Y.length c2) (.inl (by omega)))
        have HGF := Lib.hid (show Bel w ((wf.setCell ⟨(w.heap.size + 1), 0, none⟩ (.slice q1 X.length c1)).setCell ⟨(w.heap.size + 1), 1, none⟩ (.slice q2 Y.length c2)) ∧ True from ⟨(HG_wf.out.1.set (p := ⟨(w.heap.size + 1), 0, none⟩) (show w.heap.size ≤ (w.heap.size + 1) from by omega) _).set (p := ⟨(w.heap.size + 1), 1, none⟩) (show w.heap.size ≤ (w.heap.size + 1) from by omega) _, trivial⟩)
        have zf0 := HR_wf.out.frozen 0
        have zf1 := HR_wf.out.frozen 1
        have zc0 := HR_wf.out.cellv (j := 0) (by simp)
        have zc1 := HR_wf.out.cellv (j := 1) (by simp)
        simp only [List.getElem_cons_zero, List.getElem_cons_succ] at zc0 zc1
        have sc0 := HBS_wf.out.cellv (j := 0) (by simp)
        have sc1 := HBS_wf.out.cellv (j := 1) (by simp)
        simp only [List.getElem_cons_zero, List.getElem_cons_succ] at sc0 sc1
        go_wp2_with fail
        clear zc0 zc1 zf0 zf1 sc0 sc1
        generalize ((wf.setCell ⟨(w.heap.size + 1), 0, none⟩ (.slice q1 X.length c1)).setCell ⟨(w.heap.size + 1), 1, none⟩ (.slice q2 Y.length c2)) = WF at *
        have d0 := HBF.out.cellv (j := 0) (by simp)
        have d1 := HBF.out.cellv (j := 1) (by simp)
        simp only [List.set_cons_zero, List.set_cons_succ, List.getElem_cons_zero, List.getElem_cons_succ] at d0 d1
        have hzf := HIF.out.1
        have GD := schMR_good.mono (schMR_good.stay HSR_wf.out (fun b hb => HIF.out.2 b (by have := hb.1; omega) (by have := hb.2; omega))) (T := New w WF) (fun b hb => ⟨by have := hb.1; omega, by have := hb.2; omega⟩)
        have BF := HGF.out.1
        clear HBF
        exact bodyPost_ret (v := .tuple #[.agg #[.slice q1 X.length c1, .slice q2 Y.length c2], .bool true]) (by simp [results, Tryz.results20, go_sem, d0, d1]) rfl ⟨[.slice q1 X.length c1, .slice q2 Y.length c2], by rw [HF.out], by rw [HF.out]; exact GD, BF⟩
      · have HNO := Lib.hid (fun r (h : SchOf p x r) => h1 (by rw [← HFM.out, ← (HC.out r h).1]; exact h.2))
        have hE2 : (Fm.toList == x.toList) = false := by rw [beq_eq_false_iff_ne]; intro h; exact h1 (toList_inj h)
        clear h1
        have HF := Lib.hid (parseSch_no (p := p) (x := x) HNO.out)
        have zc0 := HR_wf.out.cellv (j := 0) (by simp)
        have zc1 := HR_wf.out.cellv (j := 1) (by simp)
        simp only [List.getElem_cons_zero, List.getElem_cons_succ] at zc0 zc1
        have zf0 := HR_wf.out.frozen 0
        have zf1 := HR_wf.out.frozen 1
        have Gw := HG_wf.out.1
        go_wp2_with fail
        exact bodyPost_ret (v := .tuple #[.agg #[.slice none 0 0, .slice none 0 0], .bool false]) (by simp [results, Tryz.results20, go_sem, zc0, zc1]) rfl ⟨[.slice none 0 0, .slice none 0 0], by rw [HF.out], by rw [HF.out]; exact schMR_nil _ _, by (repeat (first | assumption | exact Bel.refl _ | apply Bel.drewN | apply Bel.drew | apply Bel.alloc | refine Bel.set ?_ (by first | exact Nat.le_refl _ | exact Nat.le_add_right _ _ | (simp; done) | (simp; omega) | omega) _ | refine Bel.trans ?_ (by assumption)))⟩

end Go.Proofs.YtkfpciggolkjeaaGreatDoor
end

/- SchS -/
section
namespace Go.Proofs.YtkfpciggolkjeaaGreatDoor
open Go.ChangeShapes Go.WideShapes Go.ChangeAt Go.RowKit
set_option linter.unusedVariables false

set_option maxRecDepth 100000 in
set_option maxHeartbeats 8000000 in
theorem sParseSchedule_any (v : Value) (p : ProjT) (S : Nat → Prop) (x : ByteArray) (w : World) (hx : aggR projR S w v p) (hS : ∀ b, S b → b < w.heap.size) (_hn : bulkProject p ≤ 1048576) (hs : x.size ≤ 1048576) :
    Calls Tryz.prog 19 #[v, .string x] w (FreshSB w (parseSchV p x)) := by
  obtain ⟨cs, rfl, hx⟩ := hx
  obtain ⟨c1, c2, c3, c4, rfl, q0, q1, q2, q3, q4⟩ := projR_open hx
  have Q1 := Lib.hid q1
  have Q2 := Lib.hid q2
  have Q3 := Lib.hid q3
  have Q4 := Lib.hid q4
  have HP := Lib.hid hx
  obtain ⟨p1, k1, rfl, l1, l1', -⟩ := sliceR_open q1
  obtain ⟨p2, k2, rfl, l2, l2', -⟩ := sliceR_open q2
  obtain ⟨p3, k3, rfl, l3, l3', -⟩ := sliceR_open q3
  obtain ⟨p4, k4, rfl, l4, l4', -⟩ := sliceR_open q4
  unfold maxLen at l1' l2' l3' l4'
  clear hx q0 q1 q2 q3 q4
  have HS := Lib.hid hS
  clear hS _hn
  have HPR := Lib.hid (show ∀ W, Bel w W → aggR projR S W (.agg #[.int .i64 p.1, .slice p1 p.2.1.length k1, .slice p2 p.2.2.1.length k2, .slice p3 p.2.2.2.1.length k3, .slice p4 p.2.2.2.2.length k4]) p ∧ (∀ b, S b → b < W.heap.size) from fun W hW => ⟨aggR_mk (projR_good.bel HP.out hW HS.out), fun b hb => Nat.lt_of_lt_of_le (HS.out b hb) hW.size⟩)
  show Calls Tryz.prog 19 #[.agg #[.int .i64 p.1, .slice p1 p.2.1.length k1, .slice p2 p.2.2.1.length k2, .slice p3 p.2.2.2.1.length k3, .slice p4 p.2.2.2.2.length k4], .string x] w _
  go_enter Tryz.func19, Tryz.ntmps19
  go_wp2_with fail
  obtain ⟨W0, hW0⟩ : ∃ W, W = ((w.alloc (.cells #[.int .i64 p.1, .slice p1 p.2.1.length k1, .slice p2 p.2.2.1.length k2, .slice p3 p.2.2.2.1.length k3, .slice p4 p.2.2.2.2.length k4] 36)).alloc (.cells #[.slice none 0 0, .slice none 0 0] 52)).alloc (.cells #[.slice none 0 0, .slice none 0 0] 52) := ⟨_, rfl⟩
  rw [← hW0]
  have G0 : Bel w W0 := by rw [hW0]; (repeat (first | assumption | exact Bel.refl _ | apply Bel.drewN | apply Bel.drew | apply Bel.alloc | refine Bel.trans ?_ (by assumption)))
  have HBP := Lib.hid (show Blk W0 w.heap.size 36 [.int .i64 p.1, .slice p1 p.2.1.length k1, .slice p2 p.2.2.1.length k2, .slice p3 p.2.2.2.1.length k3, .slice p4 p.2.2.2.2.length k4] from by rw [hW0]; exact ((Blk.new' _ rfl).alloc _).alloc _)
  have HBR := Lib.hid (show Blk W0 (w.heap.size + 1) 52 [.slice none 0 0, .slice none 0 0] from by rw [hW0]; exact (Blk.new' (w := w.alloc (.cells #[.int .i64 p.1, .slice p1 p.2.1.length k1, .slice p2 p.2.2.1.length k2, .slice p3 p.2.2.2.1.length k3, .slice p4 p.2.2.2.2.length k4] 36)) _ (by simp)).alloc _)
  have HBS := Lib.hid (show Blk W0 (w.heap.size + 1 + 1) 52 [.slice none 0 0, .slice none 0 0] from by rw [hW0]; exact Blk.new' _ (by simp))
  have hz0 : (w.heap.size + 1 + 1) < W0.heap.size := by rw [hW0]; simp
  have hz0' : W0.heap.size ≤ (w.heap.size + 1 + 1) + 1 := by rw [hW0]; simp
  have HW0 := Lib.hid hW0
  clear hW0
  refine (sSplitAny_any x ⟨#[32]⟩ _ hs (by decide)).mono ?_
  rintro e w1 ⟨vq, rfl, hq, g1⟩
  have HRD := Lib.hid (fun s (h : SchOf p x s) => sch_read h)
  have hwl := splitV_le x ⟨#[32]⟩
  have HSZ := Lib.hid (fun i => splitV_getD (s := x) (by_ := ⟨#[32]⟩) i)
  generalize splitV x ⟨#[32]⟩ = ws at *
  obtain ⟨q, cap, rfl, hc1, hc2, -⟩ := sliceR_open hq
  obtain ⟨qb, qo, rfl, hqb, hrow⟩ := strs_at hq hwl.1
  have HDA := Lib.hid (show ∀ W, But (w.heap.size + 1 + 1) w1 W → ∀ i, i < ws.length → W.cell? ⟨qb, qo + i, none⟩ = some (.string (ws.getD i ⟨#[]⟩)) from fun W hW i hi => by
    rw [World.cell?_of_block (w := w1) (a := ⟨qb, qo + i, none⟩) (hW.2 qb (by have := hqb.1; omega) hqb.2)]
    exact hrow i hi)
  have G1 : Bel w w1 := G0.trans g1
  have HBP1 := Lib.hid (HBP.out.bel g1)
  have HBR1 := Lib.hid (HBR.out.bel g1)
  have HBS1 := Lib.hid (HBS.out.bel g1)
  have hz1 := g1.size
  clear hrow hq g1 hc1 hc2 hqb
  go_wp2_with fail
  go_loopw [18] (fun i wr => ∃ (k : Nat) (X Y : List Int) (q1 : Option Addr) (c1 : Nat) (q2 : Option Addr) (c2 : Nat), k ≤ ws.length ∧ i = .int .i64 k ∧ X = (ws.take k).map (fun y => (wordSpec y).1) ∧ Y = (ws.take k).map (fun y => (wordSpec y).2) ∧ Blk wr (w.heap.size + 1 + 1) 52 [.slice q1 X.length c1, .slice q2 Y.length c2] ∧ Blk wr (w.heap.size + 1) 52 [.slice none 0 0, .slice none 0 0] ∧ Blk wr w.heap.size 36 [.int .i64 p.1, .slice p1 p.2.1.length k1, .slice p2 p.2.2.1.length k2, .slice p3 p.2.2.2.1.length k3, .slice p4 p.2.2.2.2.length k4] ∧ Two 3 w1.heap.size wr X Y q1 c1 q2 c2 ∧ Bel w wr ∧ But (w.heap.size + 1 + 1) w1 wr) (fun i _ => ws.length - (intOf i).toNat)
  case atStart => exact ⟨0, [], [], none, 0, none, 0, Nat.zero_le _, rfl, rfl, rfl, HBS1.out, HBR1.out, HBP1.out, Two.nil _, by (repeat (first | assumption | exact Bel.refl _ | apply Bel.drewN | apply Bel.drew | apply Bel.alloc | refine Bel.trans ?_ (by assumption))), But.ofBel (by (repeat (first | assumption | exact Bel.refl _ | apply Bel.drewN | apply Bel.drew | apply Bel.alloc | refine Bel.trans ?_ (by assumption))))⟩
  case round =>
    obtain ⟨k, X, Y, q1, c1, q2, c2, hk, rfl, hX, hY, hbs, hbr, hbp, hD, hB, hU⟩ := hrel
    have hxl : X.length ≤ 1048577 := by rw [hX]; simp; omega
    have hyl : Y.length ≤ 1048577 := by rw [hY]; simp; omega
    have HX := Lib.hid hX
    have HY := Lib.hid hY
    have HD0 := Lib.hid hD
    have HBS0 := Lib.hid hbs
    have HBR0 := Lib.hid hbr
    have HBP0 := Lib.hid hbp
    have HG0 := Lib.hid (show Bel w wr ∧ True from ⟨hB, trivial⟩)
    have HU0 := Lib.hid hU
    have hzr := hU.1
    have hle1 := hD.o1.le
    have hle2 := hD.o2.le
    unfold maxLen at hle1 hle2
    clear hX hY hD hbs hbr hbp hB hU HBP HBR HBS
    by_cases hlt : k < ws.length
    · have hki : (k : Int) < (ws.length : Int) := by omega
      have dk := HDA.out wr HU0.out k hlt
      have hyz := HSZ.out k
      have HXS := Lib.hid (show (ws.take (k + 1)).map (fun y => (wordSpec y).1) = (ws.take k).map (fun y => (wordSpec y).1) ++ [(wordSpec (ws.getD k ⟨#[]⟩)).1] from take_snocD _ hlt)
      have HYS := Lib.hid (show (ws.take (k + 1)).map (fun y => (wordSpec y).2) = (ws.take k).map (fun y => (wordSpec y).2) ++ [(wordSpec (ws.getD k ⟨#[]⟩)).2] from take_snocD _ hlt)
      generalize ws.getD k ⟨#[]⟩ = y at *
      go_wp2_with fail
      refine (sSplitAny_own y ⟨#[64, 47]⟩ _ (by omega) (by decide)).mono ?_
      rintro e w3 ⟨q, cap', rfl, hO, g3⟩
      have HWS := Lib.hid (show wordSpec y = ((parseV ((splitV y ⟨#[64, 47]⟩).getD 1 ⟨#[]⟩)).1, (parseV ((splitV y ⟨#[64, 47]⟩).getD 2 ⟨#[]⟩)).1) from rfl)
      have hvl := splitV_le y ⟨#[64, 47]⟩
      have y1 := splitV_getD (s := y) (by_ := ⟨#[64, 47]⟩) 1
      have y2 := splitV_getD (s := y) (by_ := ⟨#[64, 47]⟩) 2
      generalize splitV y ⟨#[64, 47]⟩ = vs at *
      have hg3 := g3.size
      go_upto_region 6 with (at_builtin; refine wpList_strsO (e := 9) (B := wr.heap.size) _ rfl _ _ 64 rfl Tryz.underlying64 (by kernel_rfl) q cap' vs rfl (hO.bel strR_goodJ (by (repeat (first | assumption | exact Bel.refl _ | apply Bel.drewN | apply Bel.drew | apply Bel.alloc | refine Bel.trans ?_ (by assumption))))) _ 9 (List.replicate 2 ⟨#[]⟩) rfl (show Blk _ _ _ _ from alloc_at (by first | rfl | (simp; done))) (by decide) (by intro z hz; rw [List.eq_of_mem_replicate hz]; decide) (by simp; omega) (by first | omega | (simp; omega)) ?_; intro q' cap4 w4 hO4 hBW)
      have G4 : Bel wr w4 := hBW wr (by (repeat (first | assumption | exact Bel.refl _ | apply Bel.drewN | apply Bel.drew | apply Bel.alloc | refine Bel.trans ?_ (by assumption)))) (Nat.le_refl _)
      have hd := hO4.done (T := fun _ => True) strR_goodJ (fun b h _ => h.elim) (fun b h1 h2 => trivial)
      obtain ⟨vb, vo, rfl, -, hvr⟩ := strs_at hd (by simp)
      have d1 : w4.cell? ⟨vb, vo + 1, none⟩ = some (.string (vs.getD 1 ⟨#[]⟩)) := by have h := hvr 1 (by simp <;> omega); rw [getD_pad] at h; exact h
      have d2 : w4.cell? ⟨vb, vo + 2, none⟩ = some (.string (vs.getD 2 ⟨#[]⟩)) := by have h := hvr 2 (by simp <;> omega); rw [getD_pad] at h; exact h
      generalize vs.getD 1 ⟨#[]⟩ = u1 at *
      generalize vs.getD 2 ⟨#[]⟩ = u2 at *
      have HD2v := Lib.hid (show ∀ W, Bel w4 W → W.cell? ⟨vb, vo + 2, none⟩ = some (.string u2) from fun W hW => hW.cell d2)
      have hv1 : (1 : Int) < (vs.length : Int) + 2 := by omega
      have hv2 : (2 : Int) < (vs.length : Int) + 2 := by omega
      have HI1 := Lib.hid (parseV_in u1)
      have HI2 := Lib.hid (parseV_in u2)
      clear hd hvr d2 hO4 hBW hO g3 hg3 dk
      go_wp2_with fail
      refine (sParseInt_any u1 _ (by omega)).mono ?_
      rintro e w5 ⟨rfl, g5⟩
      have d2 := HD2v.out w5 g5
      generalize (parseV u1).1 = a1 at *
      generalize (parseV u1).2 = t1 at *
      clear d1
      go_wp2_with fail
      refine (sParseInt_any u2 _ (by omega)).mono ?_
      rintro e w6 ⟨rfl, g6⟩
      generalize (parseV u2).1 = a2 at *
      generalize (parseV u2).2 = t2 at *
      have HIa1 := HI1
      have HIa2 := HI2
      have G6 : Bel wr w6 := G4.trans (g5.trans g6)
      have HDa := Lib.hid (HD0.out.bel G6)
      have HBSa := Lib.hid (HBS0.out.bel G6)
      have HBRa := Lib.hid (HBR0.out.bel G6)
      have HBPa := Lib.hid (HBP0.out.bel G6)
      have HGa := Lib.hid (show Bel w w6 ∧ True from ⟨HG0.out.1.trans G6, trivial⟩)
      have HUa := Lib.hid (HU0.out.bel G6)
      have hza := HUa.out.1
      have sc0 := HBSa.out.cellv (j := 0) (by simp)
      simp only [List.getElem_cons_zero] at sc0
      clear d2 g5 g6 G4 G6 HI1 HI2
      go_upto_region 9 with (at_builtin; refine wpList_appG (n := 1) intR_good _ rfl _ _ 25 rfl (.int .i64 0) 8 Tryz.underlying25 (by kernel_rfl) rfl (by decide) (by decide) q1 c1 X (a1) rfl (HDa.out.o1.bel intR_good (by (repeat (first | assumption | exact Bel.refl _ | apply Bel.drewN | apply Bel.drew | apply Bel.alloc | refine Bel.trans ?_ (by assumption))))) _ 1 [.int .i64 a1] rfl rfl (World.news_of_block (alloc_at (by first | rfl | (simp; done) | (simp; omega)))) (by intro u hu; simp at hu; subst hu; rfl) (intRep HIa1.out) (by omega) (by first | omega | (simp; omega)) ?_; intro qx cx wA hOA hBA hFA; have HDb := Lib.hid ((HDa.out.bel (by (repeat (first | assumption | exact Bel.refl _ | apply Bel.drewN | apply Bel.drew | apply Bel.alloc | refine Bel.trans ?_ (by assumption))))).push1 hOA hFA); have HBSb := Lib.hid ((HBSa.out.bel (by (repeat (first | assumption | exact Bel.refl _ | apply Bel.drewN | apply Bel.drew | apply Bel.alloc | refine Bel.trans ?_ (by assumption))))).belowD hBA (by omega)); have HBRb := Lib.hid ((HBRa.out.bel (by (repeat (first | assumption | exact Bel.refl _ | apply Bel.drewN | apply Bel.drew | apply Bel.alloc | refine Bel.trans ?_ (by assumption))))).belowD hBA (by omega)); have HBPb := Lib.hid ((HBPa.out.bel (by (repeat (first | assumption | exact Bel.refl _ | apply Bel.drewN | apply Bel.drew | apply Bel.alloc | refine Bel.trans ?_ (by assumption))))).belowD hBA (by omega)); have HGb := Lib.hid (show Bel w wA ∧ True from ⟨Below.trans (Bel.trans HGa.out.1 (by (repeat (first | assumption | exact Bel.refl _ | apply Bel.drewN | apply Bel.drew | apply Bel.alloc | refine Bel.trans ?_ (by assumption))))) (Below.mono hBA (by omega)), trivial⟩); have HUb := Lib.hid ((HUa.out.bel (by (repeat (first | assumption | exact Bel.refl _ | apply Bel.drewN | apply Bel.drew | apply Bel.alloc | refine Bel.trans ?_ (by assumption))))).below hBA (Nat.le_refl _)); have hzb := (HUb.out.1); have sx := HBSb.out.cellv (j := 0) (by simp); have fs := HBSb.out.frozen 0; simp only [List.getElem_cons_zero] at sx; clear hOA hBA hFA)
      clear sc0
      have HDc := Lib.hid (HDb.out.hi ((Hi.refl w1.heap.size wA).set (q := (w.heap.size + 1 + 1)) (j := 0) (.slice qx (X.length + 1) cx) (.inl (by omega))))
      have HBSc := Lib.hid (HBSb.out.set 0 (.slice qx (X.length + 1) cx))
      have HBRc := Lib.hid (HBRb.out.setAt (q := (w.heap.size + 1 + 1)) (by omega) 0 (.slice qx (X.length + 1) cx))
      have HBPc := Lib.hid (HBPb.out.setAt (q := (w.heap.size + 1 + 1)) (by omega) 0 (.slice qx (X.length + 1) cx))
      have HGc := Lib.hid (show Bel w (wA.setCell ⟨(w.heap.size + 1 + 1), 0, none⟩ (.slice qx (X.length + 1) cx)) ∧ True from ⟨HGb.out.1.set (p := ⟨(w.heap.size + 1 + 1), 0, none⟩) (show w.heap.size ≤ (w.heap.size + 1 + 1) from by omega) (.slice qx (X.length + 1) cx), trivial⟩)
      have HUc := Lib.hid (HUb.out.put 0 (.slice qx (X.length + 1) cx))
      have hzc := HUc.out.1
      simp only [List.set_cons_zero] at HBSc
      generalize (wA.setCell ⟨(w.heap.size + 1 + 1), 0, none⟩ (.slice qx (X.length + 1) cx)) = W3 at *
      clear sx fs
      have sc1 := HBSc.out.cellv (j := 1) (by simp)
      simp only [List.getElem_cons_zero, List.getElem_cons_succ] at sc1
      go_upto_region 10 with (at_builtin; refine wpList_appG (n := 1) intR_good _ rfl _ _ 25 rfl (.int .i64 0) 8 Tryz.underlying25 (by kernel_rfl) rfl (by decide) (by decide) q2 c2 Y (a2) rfl (HDc.out.o2.bel intR_good (by (repeat (first | assumption | exact Bel.refl _ | apply Bel.drewN | apply Bel.drew | apply Bel.alloc | refine Bel.trans ?_ (by assumption))))) _ 1 [.int .i64 a2] rfl rfl (World.news_of_block (alloc_at (by first | rfl | (simp; done) | (simp; omega)))) (by intro u hu; simp at hu; subst hu; rfl) (intRep HIa2.out) (by omega) (by first | omega | (simp; omega)) ?_; intro qy cy wA hOA hBA hFA; have HDd := Lib.hid ((HDc.out.bel (by (repeat (first | assumption | exact Bel.refl _ | apply Bel.drewN | apply Bel.drew | apply Bel.alloc | refine Bel.trans ?_ (by assumption))))).push2 hOA hFA); have HBSd := Lib.hid ((HBSc.out.bel (by (repeat (first | assumption | exact Bel.refl _ | apply Bel.drewN | apply Bel.drew | apply Bel.alloc | refine Bel.trans ?_ (by assumption))))).belowD hBA (by omega)); have HBRd := Lib.hid ((HBRc.out.bel (by (repeat (first | assumption | exact Bel.refl _ | apply Bel.drewN | apply Bel.drew | apply Bel.alloc | refine Bel.trans ?_ (by assumption))))).belowD hBA (by omega)); have HBPd := Lib.hid ((HBPc.out.bel (by (repeat (first | assumption | exact Bel.refl _ | apply Bel.drewN | apply Bel.drew | apply Bel.alloc | refine Bel.trans ?_ (by assumption))))).belowD hBA (by omega)); have HGd := Lib.hid (show Bel w wA ∧ True from ⟨Below.trans (Bel.trans HGc.out.1 (by (repeat (first | assumption | exact Bel.refl _ | apply Bel.drewN | apply Bel.drew | apply Bel.alloc | refine Bel.trans ?_ (by assumption))))) (Below.mono hBA (by omega)), trivial⟩); have HUd := Lib.hid ((HUc.out.bel (by (repeat (first | assumption | exact Bel.refl _ | apply Bel.drewN | apply Bel.drew | apply Bel.alloc | refine Bel.trans ?_ (by assumption))))).below hBA (Nat.le_refl _)); have hzd := (HUd.out.1); have sx := HBSd.out.cellv (j := 1) (by simp); have fs := HBSd.out.frozen 1; simp only [List.getElem_cons_zero, List.getElem_cons_succ] at sx; clear hOA hBA hFA)
      clear sc1
      have HDe := Lib.hid (HDd.out.hi ((Hi.refl w1.heap.size wA).set (q := (w.heap.size + 1 + 1)) (j := 1) (.slice qy (Y.length + 1) cy) (.inl (by omega))))
      have HBSe := Lib.hid (HBSd.out.set 1 (.slice qy (Y.length + 1) cy))
      have HBRe := Lib.hid (HBRd.out.setAt (q := (w.heap.size + 1 + 1)) (by omega) 1 (.slice qy (Y.length + 1) cy))
      have HBPe := Lib.hid (HBPd.out.setAt (q := (w.heap.size + 1 + 1)) (by omega) 1 (.slice qy (Y.length + 1) cy))
      have HGe := Lib.hid (show Bel w (wA.setCell ⟨(w.heap.size + 1 + 1), 1, none⟩ (.slice qy (Y.length + 1) cy)) ∧ True from ⟨HGd.out.1.set (p := ⟨(w.heap.size + 1 + 1), 1, none⟩) (show w.heap.size ≤ (w.heap.size + 1 + 1) from by omega) (.slice qy (Y.length + 1) cy), trivial⟩)
      have HUe := Lib.hid (HUd.out.put 1 (.slice qy (Y.length + 1) cy))
      have hze := HUe.out.1
      simp only [List.set_cons_zero, List.set_cons_succ] at HBSe
      generalize (wA.setCell ⟨(w.heap.size + 1 + 1), 1, none⟩ (.slice qy (Y.length + 1) cy)) = W5 at *
      clear sx fs
      go_wp2_with fail
      exact ⟨⟨k + 1, X ++ [a1], Y ++ [a2], qx, cx, qy, cy, by omega, by go_num, by rw [HXS.out, ← HX.out, HWS.out], by rw [HYS.out, ← HY.out, HWS.out], by rw [List.length_append, List.length_append]; exact HBSe.out, HBRe.out, HBPe.out, HDe.out, HGe.out.1, HUe.out⟩, by simp [intOf]; omega⟩
    · obtain rfl : ws.length = k := by omega
      have HC := Lib.hid (fun s (h : SchOf p x s) => (show s = (X, Y) ∧ x ≠ ⟨#[]⟩ from ⟨by rw [HX.out, HY.out, List.take_length]; exact (HRD.out s h).1, (HRD.out s h).2⟩))
      have HSR_wr := Lib.hid HD0.out.done
      have HG_wr := Lib.hid HG0.out
      have HR_wr := Lib.hid HBR0.out
      have HBS_wr := Lib.hid HBS0.out
      have HBP_wr := Lib.hid HBP0.out
      have hz_wr : wr.heap.size ≤ wr.heap.size := Nat.le_refl _
      obtain ⟨Fm, hFm⟩ : ∃ z, fmtSchV p (X, Y) = z := ⟨_, rfl⟩
      have HFM := Lib.hid hFm
      clear hFm
      have uc0 := HBP_wr.out.cellv (j := 0) (by simp)
      have uc1 := HBP_wr.out.cellv (j := 1) (by simp)
      have uc2 := HBP_wr.out.cellv (j := 2) (by simp)
      have uc3 := HBP_wr.out.cellv (j := 3) (by simp)
      have uc4 := HBP_wr.out.cellv (j := 4) (by simp)
      simp only [List.getElem_cons_zero, List.getElem_cons_succ] at uc0 uc1 uc2 uc3 uc4
      have sc0 := HBS_wr.out.cellv (j := 0) (by simp)
      have sc1 := HBS_wr.out.cellv (j := 1) (by simp)
      simp only [List.getElem_cons_zero, List.getElem_cons_succ] at sc0 sc1
      go_wp2_with fail
      refine (sFormatSchedule_all _ p S _ (X, Y) (fun b => w1.heap.size ≤ b ∧ b < wr.heap.size) _ (HPR.out _ HG_wr.out.1).1 (HPR.out _ HG_wr.out.1).2 (aggR_mk (schMR_rep HSR_wr.out)) (fun b hb => by have := hb.2; omega)).mono ?_
      rintro e wf ⟨rfl, gf⟩
      rw [HFM.out]
      clear uc0 uc1 uc2 uc3 uc4 sc0 sc1
      have HG_wf := Lib.hid (show Bel w wf ∧ True from ⟨HG_wr.out.1.trans gf, trivial⟩)
      have HSR_wf := Lib.hid (schMR_good.bel HSR_wr.out gf (fun b hb => by have := hb.2; omega))
      have HR_wf := Lib.hid (HR_wr.out.bel gf)
      have HBS_wf := Lib.hid (HBS_wr.out.bel gf)
      have HBP_wf := Lib.hid (HBP_wr.out.bel gf)
      have hz_wf : wr.heap.size ≤ wf.heap.size := Nat.le_trans hz_wr gf.size
      clear gf
      by_cases h0 : Fm = ⟨#[]⟩
      · have HNO := Lib.hid (fun r (h : SchOf p x r) => (HC.out r h).2 (by rw [← h.2, (HC.out r h).1, HFM.out]; exact h0))
        have hE0 : Fm.toList = [] := by rw [h0, ByteArray.toList_eq]
        have hE1 : Fm.toList.isEmpty = true := by rw [hE0]; rfl
        clear h0
        have HF := Lib.hid (parseSch_no (p := p) (x := x) HNO.out)
        have zc0 := HR_wf.out.cellv (j := 0) (by simp)
        have zc1 := HR_wf.out.cellv (j := 1) (by simp)
        simp only [List.getElem_cons_zero, List.getElem_cons_succ] at zc0 zc1
        have zf0 := HR_wf.out.frozen 0
        have zf1 := HR_wf.out.frozen 1
        have Gw := HG_wf.out.1
        go_wp2_with fail
        exact bodyPost_ret (v := .tuple #[.agg #[.slice none 0 0, .slice none 0 0], .bool false]) (by simp [results, Tryz.results19, go_sem, zc0, zc1]) rfl ⟨[.slice none 0 0, .slice none 0 0], by rw [HF.out], by rw [HF.out]; exact schMR_nil _ _, by (repeat (first | assumption | exact Bel.refl _ | apply Bel.drewN | apply Bel.drew | apply Bel.alloc | refine Bel.set ?_ (by first | exact Nat.le_refl _ | exact Nat.le_add_right _ _ | (simp; done) | (simp; omega) | omega) _ | refine Bel.trans ?_ (by assumption)))⟩
      · have hE0 : ¬ Fm.toList = [] := fun h => h0 (toList_inj (h.trans (by rw [ByteArray.toList_eq])))
        have hE1 : Fm.toList.isEmpty = false := by cases hl : Fm.toList with | nil => exact absurd hl hE0 | cons _ _ => rfl
        have uc0 := HBP_wf.out.cellv (j := 0) (by simp)
        have uc1 := HBP_wf.out.cellv (j := 1) (by simp)
        have uc2 := HBP_wf.out.cellv (j := 2) (by simp)
        have uc3 := HBP_wf.out.cellv (j := 3) (by simp)
        have uc4 := HBP_wf.out.cellv (j := 4) (by simp)
        simp only [List.getElem_cons_zero, List.getElem_cons_succ] at uc0 uc1 uc2 uc3 uc4
        have sc0 := HBS_wf.out.cellv (j := 0) (by simp)
        have sc1 := HBS_wf.out.cellv (j := 1) (by simp)
        simp only [List.getElem_cons_zero, List.getElem_cons_succ] at sc0 sc1
        go_wp2_with fail
        refine (sFormatSchedule_all _ p S _ (X, Y) (fun b => w1.heap.size ≤ b ∧ b < wr.heap.size) _ (HPR.out _ HG_wf.out.1).1 (HPR.out _ HG_wf.out.1).2 (aggR_mk (schMR_rep HSR_wf.out)) (fun b hb => by have := hb.2; omega)).mono ?_
        rintro e wg ⟨rfl, gg⟩
        rw [HFM.out]
        clear uc0 uc1 uc2 uc3 uc4 sc0 sc1
        have HG_wg := Lib.hid (show Bel w wg ∧ True from ⟨HG_wf.out.1.trans gg, trivial⟩)
        have HSR_wg := Lib.hid (schMR_good.bel HSR_wf.out gg (fun b hb => by have := hb.2; omega))
        have HR_wg := Lib.hid (HR_wf.out.bel gg)
        have HBS_wg := Lib.hid (HBS_wf.out.bel gg)
        have HBP_wg := Lib.hid (HBP_wf.out.bel gg)
        have hz_wg : wr.heap.size ≤ wg.heap.size := Nat.le_trans hz_wf gg.size
        clear gg
        by_cases h1 : Fm = x
        · have HF := Lib.hid (parseSch_of (schOf_fmt (HFM.out.trans h1) (h1 ▸ h0)))
          have hE2 : (Fm.toList == x.toList) = true := by rw [h1]; simp
          clear h0 h1
          have HBF := Lib.hid ((HR_wg.out.set 0 (.slice q1 X.length c1)).set 1 (.slice q2 Y.length c2))
          have HIF := Lib.hid (((Hi.refl w1.heap.size wg).set (q := (w.heap.size + 1)) (j := 0) (.slice q1 X.length c1) (.inl (by omega))).set (q := (w.heap.size + 1)) (j := 1) (.slice q2 Y.length c2) (.inl (by omega)))
          have HGF := Lib.hid (show Bel w ((wg.setCell ⟨(w.heap.size + 1), 0, none⟩ (.slice q1 X.length c1)).setCell ⟨(w.heap.size + 1), 1, none⟩ (.slice q2 Y.length c2)) ∧ True from ⟨(HG_wg.out.1.set (p := ⟨(w.heap.size + 1), 0, none⟩) (show w.heap.size ≤ (w.heap.size + 1) from by omega) _).set (p := ⟨(w.heap.size + 1), 1, none⟩) (show w.heap.size ≤ (w.heap.size + 1) from by omega) _, trivial⟩)
          have zf0 := HR_wg.out.frozen 0
          have zf1 := HR_wg.out.frozen 1
          have zc0 := HR_wg.out.cellv (j := 0) (by simp)
          have zc1 := HR_wg.out.cellv (j := 1) (by simp)
          simp only [List.getElem_cons_zero, List.getElem_cons_succ] at zc0 zc1
          have sc0 := HBS_wg.out.cellv (j := 0) (by simp)
          have sc1 := HBS_wg.out.cellv (j := 1) (by simp)
          simp only [List.getElem_cons_zero, List.getElem_cons_succ] at sc0 sc1
          go_wp2_with fail
          clear zc0 zc1 zf0 zf1 sc0 sc1
          generalize ((wg.setCell ⟨(w.heap.size + 1), 0, none⟩ (.slice q1 X.length c1)).setCell ⟨(w.heap.size + 1), 1, none⟩ (.slice q2 Y.length c2)) = WF at *
          have d0 := HBF.out.cellv (j := 0) (by simp)
          have d1 := HBF.out.cellv (j := 1) (by simp)
          simp only [List.set_cons_zero, List.set_cons_succ, List.getElem_cons_zero, List.getElem_cons_succ] at d0 d1
          have hzf := HIF.out.1
          have GD := schMR_good.mono (schMR_good.stay HSR_wg.out (fun b hb => HIF.out.2 b (by have := hb.1; omega) (by have := hb.2; omega))) (T := New w WF) (fun b hb => ⟨by have := hb.1; omega, by have := hb.2; omega⟩)
          have BF := HGF.out.1
          clear HBF
          exact bodyPost_ret (v := .tuple #[.agg #[.slice q1 X.length c1, .slice q2 Y.length c2], .bool true]) (by simp [results, Tryz.results19, go_sem, d0, d1]) rfl ⟨[.slice q1 X.length c1, .slice q2 Y.length c2], by rw [HF.out], by rw [HF.out]; exact GD, BF⟩
        · have HNO := Lib.hid (fun r (h : SchOf p x r) => h1 (by rw [← HFM.out, ← (HC.out r h).1]; exact h.2))
          have hE2 : (Fm.toList == x.toList) = false := by rw [beq_eq_false_iff_ne]; intro h; exact h1 (toList_inj h)
          clear h0 h1
          have HF := Lib.hid (parseSch_no (p := p) (x := x) HNO.out)
          have zc0 := HR_wg.out.cellv (j := 0) (by simp)
          have zc1 := HR_wg.out.cellv (j := 1) (by simp)
          simp only [List.getElem_cons_zero, List.getElem_cons_succ] at zc0 zc1
          have zf0 := HR_wg.out.frozen 0
          have zf1 := HR_wg.out.frozen 1
          have Gw := HG_wg.out.1
          go_wp2_with fail
          exact bodyPost_ret (v := .tuple #[.agg #[.slice none 0 0, .slice none 0 0], .bool false]) (by simp [results, Tryz.results19, go_sem, zc0, zc1]) rfl ⟨[.slice none 0 0, .slice none 0 0], by rw [HF.out], by rw [HF.out]; exact schMR_nil _ _, by (repeat (first | assumption | exact Bel.refl _ | apply Bel.drewN | apply Bel.drew | apply Bel.alloc | refine Bel.set ?_ (by first | exact Nat.le_refl _ | exact Nat.le_add_right _ _ | (simp; done) | (simp; omega) | omega) _ | refine Bel.trans ?_ (by assumption)))⟩

end Go.Proofs.YtkfpciggolkjeaaGreatDoor
end

/- Kin -/
section
namespace Go.Proofs.YtkfpciggolkjeaaGreatDoor
open Go.RowKit
set_option linter.unusedVariables false

def SameK (v v' : Value) : Prop :=
  (∃ a b, v = .int .i64 a ∧ v' = .int .i64 b ∧ I64 b) ∨ (∃ a b, v = .bool a ∧ v' = .bool b) ∨ (∃ a b, v = .string a ∧ v' = .string b ∧ b.size ≤ maxLen) ∨ v' = v
theorem SameK.refl (v : Value) : SameK v v := .inr (.inr (.inr rfl))
theorem SameK.int {a b : Int} (h : I64 b) : SameK (.int .i64 a) (.int .i64 b) := .inl ⟨a, b, rfl, rfl, h⟩
theorem SameK.bool (a b : Bool) : SameK (.bool a) (.bool b) := .inr (.inl ⟨a, b, rfl, rfl⟩)
theorem SameK.str {a b : ByteArray} (h : b.size ≤ maxLen) : SameK (.string a) (.string b) := .inr (.inr (.inl ⟨a, b, rfl, rfl, h⟩))
theorem SameK.trans {u v w : Value} (h : SameK u v) (k : SameK v w) : SameK u w := by
  rcases h with ⟨a, b, rfl, rfl, hb⟩ | ⟨a, b, rfl, rfl⟩ | ⟨a, b, rfl, rfl, hb⟩ | rfl
  · rcases k with ⟨c, d, h1, rfl, hd⟩ | ⟨c, d, h1, _⟩ | ⟨c, d, h1, _⟩ | rfl
    · exact .int hd
    · cases h1
    · cases h1
    · exact .int hb
  · rcases k with ⟨c, d, h1, _⟩ | ⟨c, d, h1, rfl⟩ | ⟨c, d, h1, _⟩ | rfl
    · cases h1
    · exact .bool _ _
    · cases h1
    · exact .bool _ _
  · rcases k with ⟨c, d, h1, _⟩ | ⟨c, d, h1, _⟩ | ⟨c, d, h1, rfl, hd⟩ | rfl
    · cases h1
    · cases h1
    · exact .str hd
    · exact .str hb
  · exact k
theorem SameK.slice {p : Option Addr} {n c : Nat} {v : Value} (h : SameK (.slice p n c) v) : v = .slice p n c := by
  rcases h with ⟨a, b, h1, _⟩ | ⟨a, b, h1, _⟩ | ⟨a, b, h1, _⟩ | h1
  · cases h1
  · cases h1
  · cases h1
  · exact h1

/-- Every cell keeps its kind. -/
structure Kin (w w' : World) : Prop where
  size : w.heap.size ≤ w'.heap.size
  cell : ∀ b o v, w.cell? ⟨b, o, none⟩ = some v → ∃ v', w'.cell? ⟨b, o, none⟩ = some v' ∧ SameK v v'
  frozen : ∀ b o, b < w.heap.size → w'.frozen? ⟨b, o, none⟩ = w.frozen? ⟨b, o, none⟩
theorem Kin.refl (w : World) : Kin w w := ⟨Nat.le_refl _, fun b o v h => ⟨v, h, .refl v⟩, fun _ _ _ => rfl⟩
theorem Kin.trans {a b c : World} (h : Kin a b) (k : Kin b c) : Kin a c := by
  refine ⟨Nat.le_trans h.size k.size, fun q o v hv => ?_, fun q o hq => ?_⟩
  · obtain ⟨v1, h1, h2⟩ := h.cell q o v hv
    obtain ⟨v2, h3, h4⟩ := k.cell q o v1 h1
    exact ⟨v2, h3, h2.trans h4⟩
  · rw [k.frozen q o (Nat.lt_of_lt_of_le hq h.size), h.frozen q o hq]
theorem Kin.ofBel {a b : World} (h : Bel a b) : Kin a b :=
  ⟨h.size, fun q o v hv => ⟨v, h.cell hv, .refl v⟩, fun q o hq => h.rules.2 q o hq⟩
theorem frozen_set (w : World) (q : Addr) (u : Value) (b o : Nat) : (w.setCell q u).frozen? ⟨b, o, none⟩ = w.frozen? ⟨b, o, none⟩ := by
  by_cases hb : q.block = b
  · subst hb
    cases hh : w.heap[q.block]? with
    | none => simp [World.frozen?, World.setCell, Array.getElem?_modify, hh]
    | some ob => cases ob <;> simp [World.frozen?, World.setCell, Array.getElem?_modify, hh]
  · exact World.frozen?_of_block (w := w) (a := ⟨b, o, none⟩) (Below.heap_setCell _ _ _ _ (Ne.symm hb))
theorem Kin.set {w : World} {b o : Nat} {v u : Value} (h : w.cell? ⟨b, o, none⟩ = some v) (hk : SameK v u) : Kin w (w.setCell ⟨b, o, none⟩ u) := by
  refine ⟨by simp [World.setCell], fun q j x hx => ?_, fun q j _ => frozen_set w _ u q j⟩
  by_cases hb : q = b
  · subst hb
    by_cases hj : j = o
    · subst hj
      rw [h] at hx
      obtain rfl : v = x := by simpa using hx
      refine ⟨u, ?_, hk⟩
      simp only [World.cell?] at h ⊢
      split at h
      · next c t fr hh =>
        simp only [World.setCell, Array.getElem?_modify, hh]
        simp only [if_true, Option.map_some, Option.isSome_none, Bool.false_eq_true, if_false, Array.getElem?_setIfInBounds] at h ⊢
        have hlt : j < c.size := (Array.getElem?_eq_some_iff.1 h).1
        simp [hlt]
      · simp at h
    · refine ⟨x, ?_, .refl x⟩
      simp only [World.cell?] at hx ⊢
      split at hx
      · next c t fr hh =>
        simp only [World.setCell, Array.getElem?_modify, hh]
        simp only [if_true, Option.map_some, Option.isSome_none, Bool.false_eq_true, if_false, Array.getElem?_setIfInBounds] at hx ⊢
        rw [if_neg (Ne.symm hj), hx]
      · simp at hx
  · exact ⟨x, cell_setAt hx hb u, .refl x⟩

/-- Lists of values, kind by kind. -/
def AllK : List Value → List Value → Prop
  | [], [] => True
  | v :: a, v' :: b => SameK v v' ∧ AllK a b
  | _, _ => False
theorem AllK.refl : ∀ l : List Value, AllK l l
  | [] => trivial
  | v :: l => ⟨.refl v, AllK.refl l⟩
theorem AllK.of : ∀ (a b : List Value), a.length = b.length → (∀ i (h : i < a.length) (h' : i < b.length), SameK a[i] b[i]) → AllK a b
  | [], [], _, _ => trivial
  | [], _ :: _, h, _ => by simp at h
  | _ :: _, [], h, _ => by simp at h
  | v :: a, v' :: b, hl, h => ⟨h 0 (by simp) (by simp), AllK.of a b (by simpa using hl) fun i h1 h2 => by
      have := h (i + 1) (by simp; omega) (by simp; omega)
      simpa using this⟩
theorem AllK.length : ∀ {a b : List Value}, AllK a b → a.length = b.length
  | [], [], _ => rfl
  | [], _ :: _, h => h.elim
  | _ :: _, [], h => h.elim
  | v :: a, v' :: b, h => by simp [AllK.length h.2]

theorem AllK.cons {v : Value} {a : List Value} : ∀ {l : List Value}, AllK (v :: a) l → ∃ v' b, l = v' :: b ∧ SameK v v' ∧ AllK a b
  | [], h => h.elim
  | v' :: b, h => ⟨v', b, rfl, h.1, h.2⟩
theorem AllK.one {v : Value} {l : List Value} (h : AllK [v] l) : ∃ v', l = [v'] ∧ SameK v v' := by
  obtain ⟨v', b, rfl, h1, h2⟩ := h.cons
  cases b with
  | nil => exact ⟨v', rfl, h1⟩
  | cons x b => exact h2.elim

/-- Behind kind-keeping writes the datum still reads, with as many leaves. -/
structure Kinded {α : Type} (R : RepT α) (cnt : α → Nat) : Prop where
  go : ∀ (S : Nat → Prop) (w w' : World) (cs cs' : List Value) (x : α), R S w cs x → Kin w w' → AllK cs cs' → ∃ x', R S w' cs' x' ∧ cnt x' = cnt x
theorem kinded_int : Kinded intR (fun _ => 1) := by
  constructor
  rintro S w w' cs cs' x ⟨rfl, hx⟩ hk ha
  obtain ⟨v', rfl, hv⟩ := ha.one
  · rcases hv with ⟨a, b, h1, rfl, hb⟩ | ⟨a, b, h1, _⟩ | ⟨a, b, h1, _⟩ | rfl
    · exact ⟨b, ⟨rfl, hb⟩, rfl⟩
    · cases h1
    · cases h1
    · exact ⟨x, ⟨rfl, hx⟩, rfl⟩
theorem kinded_bool : Kinded boolR (fun _ => 1) := by
  constructor
  rintro S w w' cs cs' x hx hk ha
  obtain rfl : cs = [.bool x] := hx
  obtain ⟨v', rfl, hv⟩ := ha.one
  · rcases hv with ⟨a, b, h1, _⟩ | ⟨a, b, h1, rfl⟩ | ⟨a, b, h1, _⟩ | rfl
    · cases h1
    · exact ⟨b, rfl, rfl⟩
    · cases h1
    · exact ⟨x, rfl, rfl⟩
theorem kinded_str : Kinded strR (fun _ => 1) := by
  constructor
  rintro S w w' cs cs' x ⟨rfl, hx⟩ hk ha
  obtain ⟨v', rfl, hv⟩ := ha.one
  · rcases hv with ⟨a, b, h1, _⟩ | ⟨a, b, h1, _⟩ | ⟨a, b, h1, rfl, hb⟩ | rfl
    · cases h1
    · cases h1
    · exact ⟨b, ⟨rfl, hb⟩, rfl⟩
    · exact ⟨x, ⟨rfl, hx⟩, rfl⟩
theorem kinded_cons {α β : Type} {R0 : RepT α} {R1 : RepT β} {c0 : α → Nat} {c1 : β → Nat} (k0 : Kinded R0 c0) (k1 : Kinded R1 c1) : Kinded (consR R0 R1) (fun x => c0 x.1 + c1 x.2) := by
  constructor
  rintro S w w' cs cs' x ⟨c, rest, rfl, h0, h1⟩ hk ha
  obtain ⟨v', rest', rfl, hv, hb⟩ := ha.cons
  · obtain ⟨y0, e0, f0⟩ := k0.go _ _ _ _ [v'] _ h0 hk ⟨hv, trivial⟩
    obtain ⟨y1, e1, f1⟩ := k1.go _ _ _ _ _ _ h1 hk hb
    exact ⟨(y0, y1), ⟨v', rest', rfl, e0, e1⟩, by show c0 y0 + c1 y1 = _; rw [f0, f1]⟩
theorem kinded_map {α : Type} {n : Nat} {R : RepT α} {cnt : α → Nat} (k : Kinded R cnt) {S : Nat → Prop} {w w' : World} {cs cs' : List Value} {xs : List α} (h : sliceR n R S w cs xs) (hk : Kin w w') (ha : AllK cs cs') :
    ∃ xs', sliceR n R S w' cs' xs' ∧ xs'.map cnt = xs.map cnt := by
  obtain ⟨p, cap, rfl, h1, h2, h3⟩ := h
  obtain ⟨v', rfl, hv⟩ := ha.one
  · obtain rfl := hv.slice
    have key : ∀ i, i < xs.length → ∃ y : α, (∃ hi : i < xs.length, cnt y = cnt xs[i]) ∧ ∃ b off ecs, p = some ⟨b, off, none⟩ ∧ S b ∧ ecs.length = n ∧ RowAt w' b (off + i * n) ecs ∧ R S w' ecs y := by
      intro i hi
      obtain ⟨b, off, ecs, e1, e2, e3, e4, e5⟩ := h3 i hi
      have hc : ∀ j, j < ecs.length → ∃ v' : Value, ∃ hj : j < ecs.length, w'.cell? ⟨b, off + i * n + j, none⟩ = some v' ∧ SameK ecs[j] v' := by
        intro j hj
        obtain ⟨v', q1, q2⟩ := hk.cell _ _ _ (e4 j hj).1
        exact ⟨v', hj, q1, q2⟩
      obtain ⟨ecs', hl, hec⟩ := choose_list ecs.length hc
      have hal : AllK ecs ecs' := AllK.of _ _ hl.symm fun j h1 h2 => (hec j h2).2.2
      obtain ⟨y, y1, y2⟩ := k.go _ _ _ _ _ _ e5 hk hal
      refine ⟨y, ⟨hi, y2⟩, b, off, ecs', e1, e2, by omega, fun j hj => ⟨(hec j hj).2.1, ?_⟩, y1⟩
      have hlt := lt_of_cell (e4 j (by omega)).1
      rw [hk.frozen _ _ hlt]
      exact (e4 j (by omega)).2
    obtain ⟨ys, hl, hy⟩ := choose_list xs.length key
    refine ⟨ys, ⟨p, cap, by rw [hl], by omega, h2, fun i hi => (hy i hi).2⟩, ?_⟩
    apply List.ext_getElem
    · simp [hl]
    · intro i h4 h5
      simp only [List.getElem_map]
      obtain ⟨_, h6⟩ := (hy i (by simpa using h4)).1
      exact h6

theorem kinded_slice {α : Type} {n : Nat} {R : RepT α} {cnt : α → Nat} (k : Kinded R cnt) : Kinded (sliceR n R) (fun xs => sumL (xs.map cnt)) := by
  constructor
  intro S w w' cs cs' xs h hk ha
  obtain ⟨xs', h1, h2⟩ := kinded_map k h hk ha
  exact ⟨xs', h1, congrArg sumL h2⟩
theorem Kin.slice {w w' : World} (hk : Kin w w') {b o : Nat} {p : Option Addr} {n c : Nat} (h : w.cell? ⟨b, o, none⟩ = some (.slice p n c)) : w'.cell? ⟨b, o, none⟩ = some (.slice p n c) := by
  obtain ⟨v', h1, h2⟩ := hk.cell _ _ _ h
  rw [h2.slice] at h1
  exact h1
theorem Kin.free {w w' : World} (hk : Kin w w') {b o : Nat} {v : Value} (h : w.cell? ⟨b, o, none⟩ = some v) (hf : w.frozen? ⟨b, o, none⟩ = false) : w'.frozen? ⟨b, o, none⟩ = false := by
  rw [hk.frozen _ _ (lt_of_cell h)]; exact hf
theorem Kin.setInt {w W : World} (hk : Kin w W) {b o : Nat} {a u : Int} (h : w.cell? ⟨b, o, none⟩ = some (.int .i64 a)) (hu : I64 u) : Kin w (W.setCell ⟨b, o, none⟩ (.int .i64 u)) := by
  obtain ⟨v', h1, h2⟩ := hk.cell _ _ _ h
  refine hk.trans (Kin.set h1 ?_)
  rcases h2 with ⟨c, d, h3, rfl, _⟩ | ⟨c, d, h3, _⟩ | ⟨c, d, h3, _⟩ | rfl
  · exact .int hu
  · cases h3
  · cases h3
  · exact .int hu
theorem Kin.setBool {w W : World} (hk : Kin w W) {b o : Nat} {a u : Bool} (h : w.cell? ⟨b, o, none⟩ = some (.bool a)) : Kin w (W.setCell ⟨b, o, none⟩ (.bool u)) := by
  obtain ⟨v', h1, h2⟩ := hk.cell _ _ _ h
  refine hk.trans (Kin.set h1 ?_)
  rcases h2 with ⟨c, d, h3, _⟩ | ⟨c, d, h3, rfl⟩ | ⟨c, d, h3, _⟩ | rfl
  · cases h3
  · exact .bool _ _
  · cases h3
  · exact .bool _ _
theorem Kin.setStr {w W : World} (hk : Kin w W) {b o : Nat} {a u : ByteArray} (h : w.cell? ⟨b, o, none⟩ = some (.string a)) (hu : u.size ≤ maxLen) : Kin w (W.setCell ⟨b, o, none⟩ (.string u)) := by
  obtain ⟨v', h1, h2⟩ := hk.cell _ _ _ h
  refine hk.trans (Kin.set h1 ?_)
  rcases h2 with ⟨c, d, h3, _⟩ | ⟨c, d, h3, _⟩ | ⟨c, d, h3, rfl, _⟩ | rfl
  · cases h3
  · cases h3
  · exact .str hu
  · exact .str hu
theorem markEnd {α : Type} {R : RepT α} {cnt : α → Nat} {n : Nat} (ek : Kinded R cnt) {S : Nat → Prop} {w W : World} {v : Value} {xs' : List α} {L : List Nat} (hr : sliceR n R S w [v] xs') (hm : xs'.map cnt = L) (K : Kin w W) : ∃ xs'', sliceR n R S W [v] xs'' ∧ xs''.map cnt = L := by
  obtain ⟨xs'', h1, h2⟩ := kinded_map ek hr K (AllK.refl _)
  exact ⟨xs'', h1, h2.trans hm⟩
theorem sumTake (L : List Nat) (i : Nat) (h : i < L.length) : sumL (L.take (i + 1)) = sumL (L.take i) + L[i] := by
  rw [List.take_succ_eq_append_getElem h, sumL_append]
  simp [sumL]
theorem sumTake_le (L : List Nat) (i : Nat) : sumL (L.take i) ≤ sumL L := by
  have h : L = L.take i ++ L.drop i := (List.take_append_drop i L).symm
  have h1 := congrArg sumL h
  rw [sumL_append] at h1
  omega

/-- What a contract left in new memory, in an interval of blocks. -/
def Ival (lo hi : Nat) : Nat → Prop := fun k => lo ≤ k ∧ k < hi
theorem stays_ival {α : Type} {R : RepT α} (gd : Good R) {a b : World} {v : Value} {x : α} {lo : Nat} (h : R (New a b) b [v] x) (hlo : lo ≤ a.heap.size) : ∀ W, Bel b W → R (Ival lo b.heap.size) W [v] x ∧ (∀ k, Ival lo b.heap.size k → k < W.heap.size) :=
  fun W hW => ⟨gd.bel (gd.mono h fun k hk => ⟨Nat.le_trans hlo hk.1, hk.2⟩) hW (fun k hk => hk.2), fun k hk => Nat.lt_of_lt_of_le hk.2 hW.size⟩
theorem stays_ival_agg {α : Type} {R : RepT α} (gd : Good R) {a b : World} {cs : List Value} {x : α} {lo : Nat} (h : R (New a b) b cs x) (hlo : lo ≤ a.heap.size) : ∀ W, Bel b W → aggR R (Ival lo b.heap.size) W (.agg cs.toArray) x ∧ (∀ k, Ival lo b.heap.size k → k < W.heap.size) :=
  fun W hW => ⟨aggR_mk (gd.bel (gd.mono h fun k hk => ⟨Nat.le_trans hlo hk.1, hk.2⟩) hW (fun k hk => hk.2)), fun k hk => Nat.lt_of_lt_of_le hk.2 hW.size⟩
theorem Mut.keepAgg {α : Type} {R : RepT α} (gd : Good R) {S T : Nat → Prop} {a b : World} {v : Value} {x : α} (hm : Mut S a b) (h : aggR R T a v x) (hT : ∀ k, T k → k < a.heap.size ∧ ¬ S k) : aggR R T b v x := by
  obtain ⟨cs, rfl, h⟩ := h
  exact ⟨cs, rfl, hm.keep gd h hT⟩
theorem aggR_bel {α : Type} {R : RepT α} (gd : Good R) {T : Nat → Prop} {a b : World} {v : Value} {x : α} (h : aggR R T a v x) (hb : Bel a b) (hT : ∀ k, T k → k < a.heap.size) : aggR R T b v x := by
  obtain ⟨cs, rfl, h⟩ := h
  exact ⟨cs, rfl, gd.bel h hb hT⟩

/-- Leaves. -/
def cntInts (xs : List Int) : Nat := sumL (xs.map fun _ => 1)
def cntRows (xs : List (List Int)) : Nat := sumL (xs.map cntInts)
def cntSteps (xs : List StepT) : Nat := sumL (xs.map fun _ => 1 + 1)
def cntLinks (xs : List LinkT) : Nat := sumL (xs.map fun _ => 1 + (1 + (1 + 1)))
def cntMode (x : ModeT) : Nat := 1 + (cntInts x.2.1 + cntInts x.2.2)
def cntModes (xs : List ModeT) : Nat := sumL (xs.map cntMode)
def cntAct (x : ActT) : Nat := 1 + (1 + cntModes x.2.2)
def cntActs (xs : List ActT) : Nat := sumL (xs.map cntAct)
def cntRes (x : ResT) : Nat := cntSteps x.1 + cntRows x.2
def cntRess (xs : List ResT) : Nat := sumL (xs.map cntRes)
def cntProj (x : ProjT) : Nat := 1 + (cntActs x.2.1 + (cntLinks x.2.2.1 + (cntRess x.2.2.2.1 + cntInts x.2.2.2.2)))
def cntSch (x : SchT) : Nat := cntInts x.1 + cntInts x.2
def cntDom (x : DomT) : Nat := cntInts x.1 + (cntInts x.2.1 + cntRows x.2.2)
theorem ints_kin : Kinded intsR cntInts := kinded_slice kinded_int
theorem rows_kin : Kinded rowsR cntRows := kinded_slice ints_kin
theorem step_kin : Kinded stepR (fun _ => 1 + 1) := kinded_cons kinded_int kinded_int
theorem steps_kin : Kinded stepsR cntSteps := kinded_slice step_kin
theorem link_kin : Kinded linkR (fun _ => 1 + (1 + (1 + 1))) := kinded_cons kinded_int (kinded_cons kinded_int (kinded_cons kinded_bool kinded_int))
theorem links_kin : Kinded linksR cntLinks := kinded_slice link_kin
theorem mode_kin : Kinded modeR cntMode := kinded_cons kinded_int (kinded_cons ints_kin ints_kin)
theorem modes_kin : Kinded modesR cntModes := kinded_slice mode_kin
theorem act_kin : Kinded actR cntAct := kinded_cons kinded_str (kinded_cons kinded_int modes_kin)
theorem acts_kin : Kinded actsR cntActs := kinded_slice act_kin
theorem res_kin : Kinded resR cntRes := kinded_cons steps_kin rows_kin
theorem ress_kin : Kinded ressR cntRess := kinded_slice res_kin
theorem proj_kin : Kinded projR cntProj := kinded_cons kinded_int (kinded_cons acts_kin (kinded_cons links_kin (kinded_cons ress_kin ints_kin)))
theorem sch_kin : Kinded schR cntSch := kinded_cons ints_kin ints_kin
theorem dom_kin : Kinded domR cntDom := kinded_cons ints_kin (kinded_cons ints_kin rows_kin)
theorem cntInts_eq (xs : List Int) : cntInts xs = xs.length := by
  unfold cntInts
  induction xs with
  | nil => rfl
  | cons x xs ih => rw [List.map_cons, sumL_cons, ih, List.length_cons]; omega
theorem sumL_le {α : Type} {f g : α → Nat} {c : Nat} (h : ∀ x, f x ≤ c * g x + c) : ∀ xs : List α, sumL (xs.map f) ≤ c * (xs.length + sumL (xs.map g))
  | [] => by simp [sumL]
  | x :: xs => by
    have h1 := h x
    have h2 := sumL_le h xs
    rw [List.map_cons, List.map_cons, sumL_cons, sumL_cons, List.length_cons]
    rw [Nat.mul_add] at h2 ⊢
    rw [Nat.mul_add, Nat.mul_add]
    omega
theorem sumL_const {α : Type} (c : Nat) : ∀ xs : List α, sumL (xs.map fun _ => c) = c * xs.length
  | [] => by simp [sumL]
  | x :: xs => by rw [List.map_cons, sumL_cons, sumL_const c xs, List.length_cons, Nat.mul_succ]; omega
theorem cntRows_le (xs : List (List Int)) : cntRows xs ≤ 1 * bulkIntSS xs := sumL_le (fun x => by rw [cntInts_eq]; unfold bulkIntS; omega) xs
theorem cntMode_le (x : ModeT) : cntMode x ≤ 2 * bulkMode x + 2 := by
  unfold cntMode bulkMode bulkIntS
  rw [cntInts_eq, cntInts_eq]; omega
theorem cntModes_le (xs : List ModeT) : cntModes xs ≤ 2 * bulkModeS xs := sumL_le cntMode_le xs
theorem cntAct_le (x : ActT) : cntAct x ≤ 2 * bulkActivity x + 2 := by
  have h := cntModes_le x.2.2
  unfold cntAct bulkActivity
  omega
theorem cntActs_le (xs : List ActT) : cntActs xs ≤ 2 * bulkActivityS xs := sumL_le cntAct_le xs
theorem cntRes_le (x : ResT) : cntRes x ≤ 2 * bulkResource x + 2 := by
  have h := cntRows_le x.2
  unfold cntRes bulkResource cntSteps bulkStepS
  rw [sumL_const]
  omega
theorem cntRess_le (xs : List ResT) : cntRess xs ≤ 2 * bulkResourceS xs := sumL_le cntRes_le xs
theorem cntProj_le (x : ProjT) : cntProj x ≤ 4 * bulkProject x + 1 := by
  have h1 := cntActs_le x.2.1
  have h2 := cntRess_le x.2.2.2.1
  unfold cntProj bulkProject cntLinks bulkLinkS bulkIntS
  rw [sumL_const, cntInts_eq]
  omega
theorem cntSch_le (x : SchT) : cntSch x ≤ bulkSchedule x := by
  unfold cntSch bulkSchedule bulkIntS
  rw [cntInts_eq, cntInts_eq]; omega
theorem cntDom_le (x : DomT) : cntDom x ≤ bulkDomain x := by
  have h := cntRows_le x.2.2
  unfold cntDom bulkDomain bulkIntS
  rw [cntInts_eq, cntInts_eq]; omega
end Go.Proofs.YtkfpciggolkjeaaGreatDoor
end

/- MarkK -/
section
namespace Go.Proofs.YtkfpciggolkjeaaGreatDoor
open Go.ChangeShapes Go.WideShapes Go.ChangeAt Go.RowKit
set_option linter.unusedVariables false

theorem oneByte (w : World) (x : Int) : (convert 101 9 (.slice (some ⟨w.heap.size, 0, none⟩) 1 1)).run Tryz.prog (w.alloc (.cells #[.int .u8 x] 5)) = .ok (.string (strOfNums [x])) (w.alloc (.cells #[.int .u8 x] 5)) := by
  refine run_convert_bytes_arg _ 101 5 Tryz.underlying101 Tryz.underlying5 w.heap.size 0 1 1 [x] rfl (fun i hi => ?_) 9 Tryz.underlying9
  obtain rfl : i = 0 := by omega
  simp [go_sem]

set_option maxHeartbeats 400000 in
theorem markText_any (k : Int) (w : World) (h0 : 0 ≤ k) (h1 : k ≤ 1099511627776) :
    Calls Tryz.prog 94 #[.int .i64 k] w fun e w' => ∃ s : ByteArray, e = .returned (.string s) ∧ s.size ≤ maxLen ∧ Bel w w' := by
  by_cases hk : k ≤ 0
  · go_enter Tryz.func94, Tryz.ntmps94
    go_wp2
    go_ret
    exact ⟨_, rfl, by decide, Bel.refl _⟩
  go_enter Tryz.func94, Tryz.ntmps94
  go_wp2_with fail
  go_loopw [0, 3] (fun kk out wr => ∃ (j : Int) (s : ByteArray), 0 ≤ j ∧ kk = .int .i64 j ∧ out = .string s ∧ (s.size : Int) + j ≤ k ∧ Bel w wr) (fun kk _ _ => (intOf kk).toNat)
  case atStart => exact ⟨k, ⟨#[]⟩, h0, rfl, rfl, by show ((0 : Nat) : Int) + k ≤ k; omega, Bel.refl _⟩
  case round =>
    obtain ⟨j, s, hj, rfl, rfl, hs, hB⟩ := hrel
    by_cases hlt : 0 < j
    · have hm0 : 0 ≤ j % 10 := by omega
      have hm1 : j % 10 < 10 := by omega
      have hcv := oneByte wr
      have hs1 : ∀ x : Int, (strOfNums [x]).size = 1 := fun x => strOfNums_size [x]
      have hs2 : ¬ (9223372036854775807 < 1 + s.size) := by omega
      go_wp2
      go_roundw
      case rel => exact ⟨j / 10, strOfNums [48 + j % 10] ++ s, by omega, rfl, rfl, by rw [ByteArray.size_append, hs1]; omega, by (repeat (first | assumption | exact Bel.refl _ | apply Bel.drewN | apply Bel.drew | apply Bel.alloc | refine Bel.trans ?_ (by assumption)))⟩
      case measure => simp [intOf]; omega
    · go_wp2
      go_ret
      exact ⟨_, rfl, by show ((ByteArray.mk #[109]) ++ s).size ≤ maxLen; rw [ByteArray.size_append]; unfold maxLen; have : (ByteArray.mk #[109]).size = 1 := rfl; omega, hB⟩

set_option maxHeartbeats 1000000 in
theorem markIntS_kin (v : Value) (xs : List (Int)) (S : Nat → Prop) (k : Int) (w0 w : World) (hx0 : intsR S w0 [v] xs) (hK0 : Kin w0 w) (h0 : 0 ≤ k) (h1 : k + cntInts xs ≤ 1099511627776) :
    Calls Tryz.prog 60 #[v, .int .i64 k] w fun e w' => e = .returned (.int .i64 (k + cntInts xs)) ∧ Mut S w w' ∧ Kin w w' := by
  obtain ⟨p, cap, rfl, l1, l2, -⟩ := sliceR_open hx0
  obtain ⟨L, hL⟩ : ∃ L : List Nat, xs.map (fun _ => 1) = L := ⟨_, rfl⟩
  have hcs : cntInts xs = sumL L := by rw [← hL]; rfl
  rw [hcs] at h1 ⊢
  have HX0 := Lib.hid (markEnd kinded_int hx0 hL hK0)
  obtain ⟨len, hlen⟩ : ∃ n, xs.length = n := ⟨_, rfl⟩
  have hLl : L.length = len := by rw [← hL, List.length_map, hlen]
  have HLL := Lib.hid hLl
  rw [hlen] at HX0 l1 ⊢
  unfold maxLen at l2
  clear hx0 hcs hL hlen hLl hK0
  go_enter Tryz.func60, Tryz.ntmps60
  go_wp2_with fail
  go_loopw [1, 5] (fun kk ii wr => ∃ (i : Nat), i ≤ len ∧ ii = .int .i64 i ∧ kk = .int .i64 (k + (sumL (L.take i) : Nat)) ∧ (∃ xs' : List (Int), intsR S wr [.slice p len cap] xs' ∧ xs'.map (fun _ => 1) = L) ∧ Mut S w wr ∧ Kin w wr) (fun _ ii _ => len - (intOf ii).toNat)
  case atStart => exact ⟨0, Nat.zero_le _, rfl, by simp [sumL], HX0.out, Mut.refl _ _, Kin.refl _⟩
  case round =>
    obtain ⟨i, hi, rfl, rfl, ⟨xs', hr, hm⟩, hM, hK⟩ := hrel
    have HR := Lib.hid hr
    have HMm := Lib.hid hm
    have HM := Lib.hid hM
    have HK := Lib.hid hK
    have hs0 := sumTake_le L i
    by_cases hlt : i < len
    · have hl' : i < L.length := by rw [HLL.out]; exact hlt
      have hlx : i < xs'.length := by have h9 := congrArg List.length hm; rw [List.length_map, HLL.out] at h9; omega
      have hst := sumTake L i hl'
      have hs1 := sumTake_le L (i + 1)
      have hLi : L[i] = (fun _ => 1) (xs'.getD i 0) := by
        have h9 : (xs'.map (fun _ => 1))[i]'(by simpa using hlx) = L[i] := by simp only [hm]
        rw [← h9, List.getElem_map]
        try simp [List.getD, hlx]
      obtain ⟨p', cap', hv, _, _, h4⟩ := sliceR_open hr
      obtain ⟨rfl, hll, rfl⟩ : p = p' ∧ len = xs'.length ∧ cap = cap' := by simpa using hv
      obtain ⟨b, off, ecs, rfl, e2, e3, e4, e5⟩ := h4 i hlx
      have hgd : xs'.getD i 0 = xs'[i] := by simp [List.getD, hlx]
      rw [← hgd] at e5
      clear hr hm hM hK hv h4 hgd hlx hll
      generalize xs'.getD i 0 = X at *
      obtain ⟨rfl, _⟩ := e5
      have d0 := (e4 0 (by simp)).1
      have f0 := (e4 0 (by simp)).2
      simp only [List.getElem_cons_zero, Nat.mul_one, Nat.add_zero] at d0
      simp only [Nat.mul_one, Nat.add_zero] at f0
      have HS := Lib.hid e2
      obtain ⟨s, hs⟩ : ∃ s, sumL (L.take i) = s := ⟨_, rfl⟩
      rw [hs, hLi] at hst
      rw [hs] at hs0
      rw [hs]
      have HST := Lib.hid hst
      have hsb : s + (fun _ => 1) X ≤ sumL L := by rw [← hst]; exact hs1
      clear hst hs1 hLi hs e2 e3 e4 hl'
      try clear e5
      have hii : (i : Int) < (len : Int) := by omega
      have hcx : s + 1 ≤ sumL L := hsb
      clear hsb
      have HST2 := Lib.hid (show sumL (L.take (i + 1)) = s + 1 from HST.out)
      have D0 := Lib.hid d0
      go_wp2
      go_roundw
      case rel => exact ⟨i + 1, by omega, by go_num, by rw [HST2.out]; go_num, markEnd kinded_int HR.out HMm.out (by exact ((Kin.refl wr).setInt D0.out (by unfold I64; omega))), HM.out.trans (by exact ((Mut.refl S wr).set b _ _ HS.out)), HK.out.trans (by exact ((Kin.refl wr).setInt D0.out (by unfold I64; omega)))⟩
      case measure => simp [intOf]; omega
    · have hil : i = len := by omega
      have HD := Lib.hid (show k + (sumL (L.take i) : Nat) = k + (sumL L : Nat) from by rw [hil, ← HLL.out, List.take_length])
      clear hil
      go_wp2
      go_ret
      exact ⟨ret_int HD.out, HM.out, HK.out⟩

set_option maxHeartbeats 1000000 in
theorem markIntSS_kin (v : Value) (xs : List (List Int)) (S : Nat → Prop) (k : Int) (w0 w : World) (hx0 : rowsR S w0 [v] xs) (hK0 : Kin w0 w) (h0 : 0 ≤ k) (h1 : k + cntRows xs ≤ 1099511627776) :
    Calls Tryz.prog 97 #[v, .int .i64 k] w fun e w' => e = .returned (.int .i64 (k + cntRows xs)) ∧ Mut S w w' ∧ Kin w w' := by
  obtain ⟨p, cap, rfl, l1, l2, -⟩ := sliceR_open hx0
  obtain ⟨L, hL⟩ : ∃ L : List Nat, xs.map (cntInts) = L := ⟨_, rfl⟩
  have hcs : cntRows xs = sumL L := by rw [← hL]; rfl
  rw [hcs] at h1 ⊢
  have HX0 := Lib.hid (markEnd ints_kin hx0 hL hK0)
  obtain ⟨len, hlen⟩ : ∃ n, xs.length = n := ⟨_, rfl⟩
  have hLl : L.length = len := by rw [← hL, List.length_map, hlen]
  have HLL := Lib.hid hLl
  rw [hlen] at HX0 l1 ⊢
  unfold maxLen at l2
  clear hx0 hcs hL hlen hLl hK0
  go_enter Tryz.func97, Tryz.ntmps97
  go_wp2_with fail
  go_loopw [1, 5] (fun kk ii wr => ∃ (i : Nat), i ≤ len ∧ ii = .int .i64 i ∧ kk = .int .i64 (k + (sumL (L.take i) : Nat)) ∧ (∃ xs' : List (List Int), rowsR S wr [.slice p len cap] xs' ∧ xs'.map (cntInts) = L) ∧ Mut S w wr ∧ Kin w wr) (fun _ ii _ => len - (intOf ii).toNat)
  case atStart => exact ⟨0, Nat.zero_le _, rfl, by simp [sumL], HX0.out, Mut.refl _ _, Kin.refl _⟩
  case round =>
    obtain ⟨i, hi, rfl, rfl, ⟨xs', hr, hm⟩, hM, hK⟩ := hrel
    have HR := Lib.hid hr
    have HMm := Lib.hid hm
    have HM := Lib.hid hM
    have HK := Lib.hid hK
    have hs0 := sumTake_le L i
    by_cases hlt : i < len
    · have hl' : i < L.length := by rw [HLL.out]; exact hlt
      have hlx : i < xs'.length := by have h9 := congrArg List.length hm; rw [List.length_map, HLL.out] at h9; omega
      have hst := sumTake L i hl'
      have hs1 := sumTake_le L (i + 1)
      have hLi : L[i] = (cntInts) (xs'.getD i []) := by
        have h9 : (xs'.map (cntInts))[i]'(by simpa using hlx) = L[i] := by simp only [hm]
        rw [← h9, List.getElem_map]
        try simp [List.getD, hlx]
      obtain ⟨p', cap', hv, _, _, h4⟩ := sliceR_open hr
      obtain ⟨rfl, hll, rfl⟩ : p = p' ∧ len = xs'.length ∧ cap = cap' := by simpa using hv
      obtain ⟨b, off, ecs, rfl, e2, e3, e4, e5⟩ := h4 i hlx
      have hgd : xs'.getD i [] = xs'[i] := by simp [List.getD, hlx]
      rw [← hgd] at e5
      clear hr hm hM hK hv h4 hgd hlx hll
      generalize xs'.getD i [] = X at *
      have eq0 := e5
      obtain ⟨ec0, hec⟩ : ∃ c, ecs = [c] := by match ecs, e3 with | [c], _ => exact ⟨c, rfl⟩
      subst hec
      obtain ⟨ec0p, ec0k, rfl, -⟩ := sliceR_open eq0
      have d0 := (e4 0 (by simp)).1
      have f0 := (e4 0 (by simp)).2
      simp only [List.getElem_cons_zero, Nat.mul_one, Nat.add_zero] at d0
      simp only [Nat.mul_one, Nat.add_zero] at f0
      have HS := Lib.hid e2
      obtain ⟨s, hs⟩ : ∃ s, sumL (L.take i) = s := ⟨_, rfl⟩
      rw [hs, hLi] at hst
      rw [hs] at hs0
      rw [hs]
      have HST := Lib.hid hst
      have hsb : s + (cntInts) X ≤ sumL L := by rw [← hst]; exact hs1
      clear hst hs1 hLi hs e2 e3 e4 hl'
      try clear e5
      have hii : (i : Int) < (len : Int) := by omega
      have hcx : s + (cntInts X) ≤ sumL L := hsb
      clear hsb
      obtain ⟨n0, hn0⟩ : ∃ n, cntInts X = n := ⟨_, rfl⟩
      have HST2 := Lib.hid (show sumL (L.take (i + 1)) = s + (n0) from by rw [HST.out, ← hn0]; try rfl)
      rw [hn0] at hcx
      have HN0 := Lib.hid hn0
      clear hn0
      have HQ0 := Lib.hid eq0
      clear eq0
      have D0 := Lib.hid d0
      go_wp2_with fail
      refine (markIntS_kin _ X S _ wr _ HQ0.out (by exact (Kin.refl wr)) (by omega) (by rw [HN0.out]; omega)).mono ?_
      rintro e v1 ⟨rfl, Mv1, Kv1⟩
      rw [HN0.out]
      have KKv1 : Kin wr v1 := Kin.trans (by exact (Kin.refl wr)) Kv1
      have MMv1 : Mut S wr v1 := Mut.trans (by exact (Mut.refl S wr)) Mv1
      go_wp2
      go_roundw
      case rel => exact ⟨i + 1, by omega, by go_num, by rw [HST2.out]; go_num, markEnd ints_kin HR.out HMm.out (by exact KKv1), HM.out.trans (by exact MMv1), HK.out.trans (by exact KKv1)⟩
      case measure => simp [intOf]; omega
    · have hil : i = len := by omega
      have HD := Lib.hid (show k + (sumL (L.take i) : Nat) = k + (sumL L : Nat) from by rw [hil, ← HLL.out, List.take_length])
      clear hil
      go_wp2
      go_ret
      exact ⟨ret_int HD.out, HM.out, HK.out⟩

set_option maxHeartbeats 1000000 in
theorem markStepS_kin (v : Value) (xs : List (StepT)) (S : Nat → Prop) (k : Int) (w0 w : World) (hx0 : stepsR S w0 [v] xs) (hK0 : Kin w0 w) (h0 : 0 ≤ k) (h1 : k + cntSteps xs ≤ 1099511627776) :
    Calls Tryz.prog 96 #[v, .int .i64 k] w fun e w' => e = .returned (.int .i64 (k + cntSteps xs)) ∧ Mut S w w' ∧ Kin w w' := by
  obtain ⟨p, cap, rfl, l1, l2, -⟩ := sliceR_open hx0
  obtain ⟨L, hL⟩ : ∃ L : List Nat, xs.map (fun _ => 1 + 1) = L := ⟨_, rfl⟩
  have hcs : cntSteps xs = sumL L := by rw [← hL]; rfl
  rw [hcs] at h1 ⊢
  have HX0 := Lib.hid (markEnd step_kin hx0 hL hK0)
  obtain ⟨len, hlen⟩ : ∃ n, xs.length = n := ⟨_, rfl⟩
  have hLl : L.length = len := by rw [← hL, List.length_map, hlen]
  have HLL := Lib.hid hLl
  rw [hlen] at HX0 l1 ⊢
  unfold maxLen at l2
  clear hx0 hcs hL hlen hLl hK0
  go_enter Tryz.func96, Tryz.ntmps96
  go_wp2_with fail
  go_loopw [1, 5] (fun kk ii wr => ∃ (i : Nat), i ≤ len ∧ ii = .int .i64 i ∧ kk = .int .i64 (k + (sumL (L.take i) : Nat)) ∧ (∃ xs' : List (StepT), stepsR S wr [.slice p len cap] xs' ∧ xs'.map (fun _ => 1 + 1) = L) ∧ Mut S w wr ∧ Kin w wr) (fun _ ii _ => len - (intOf ii).toNat)
  case atStart => exact ⟨0, Nat.zero_le _, rfl, by simp [sumL], HX0.out, Mut.refl _ _, Kin.refl _⟩
  case round =>
    obtain ⟨i, hi, rfl, rfl, ⟨xs', hr, hm⟩, hM, hK⟩ := hrel
    have HR := Lib.hid hr
    have HMm := Lib.hid hm
    have HM := Lib.hid hM
    have HK := Lib.hid hK
    have hs0 := sumTake_le L i
    by_cases hlt : i < len
    · have hl' : i < L.length := by rw [HLL.out]; exact hlt
      have hlx : i < xs'.length := by have h9 := congrArg List.length hm; rw [List.length_map, HLL.out] at h9; omega
      have hst := sumTake L i hl'
      have hs1 := sumTake_le L (i + 1)
      have hLi : L[i] = (fun _ => 1 + 1) (xs'.getD i (0, 0)) := by
        have h9 : (xs'.map (fun _ => 1 + 1))[i]'(by simpa using hlx) = L[i] := by simp only [hm]
        rw [← h9, List.getElem_map]
        try simp [List.getD, hlx]
      obtain ⟨p', cap', hv, _, _, h4⟩ := sliceR_open hr
      obtain ⟨rfl, hll, rfl⟩ : p = p' ∧ len = xs'.length ∧ cap = cap' := by simpa using hv
      obtain ⟨b, off, ecs, rfl, e2, e3, e4, e5⟩ := h4 i hlx
      have hgd : xs'.getD i (0, 0) = xs'[i] := by simp [List.getD, hlx]
      rw [← hgd] at e5
      clear hr hm hM hK hv h4 hgd hlx hll
      generalize xs'.getD i (0, 0) = X at *
      obtain ⟨rfl, eq0, eq1⟩ := stepR_open e5
      have d0 := (e4 0 (by simp)).1
      have f0 := (e4 0 (by simp)).2
      have d1 := (e4 1 (by simp)).1
      have f1 := (e4 1 (by simp)).2
      simp only [List.getElem_cons_zero, List.getElem_cons_succ, Nat.add_zero] at d0 d1
      simp only [Nat.add_zero] at f0
      have HS := Lib.hid e2
      obtain ⟨s, hs⟩ : ∃ s, sumL (L.take i) = s := ⟨_, rfl⟩
      rw [hs, hLi] at hst
      rw [hs] at hs0
      rw [hs]
      have HST := Lib.hid hst
      have hsb : s + (fun _ => 1 + 1) X ≤ sumL L := by rw [← hst]; exact hs1
      clear hst hs1 hLi hs e2 e3 e4 hl'
      try clear e5
      have hii : (i : Int) < (len : Int) := by omega
      have hcx : s + 2 ≤ sumL L := hsb
      clear hsb
      have HST2 := Lib.hid (show sumL (L.take (i + 1)) = s + 2 from HST.out)
      have D0 := Lib.hid d0
      have D1 := Lib.hid d1
      clear eq0 eq1
      go_wp2
      go_roundw
      case rel => exact ⟨i + 1, by omega, by go_num, by rw [HST2.out]; go_num, markEnd step_kin HR.out HMm.out (by exact (((Kin.refl wr).setInt D0.out (by unfold I64; omega)).setInt D1.out (by unfold I64; omega))), HM.out.trans (by exact (((Mut.refl S wr).set b _ _ HS.out).set b _ _ HS.out)), HK.out.trans (by exact (((Kin.refl wr).setInt D0.out (by unfold I64; omega)).setInt D1.out (by unfold I64; omega)))⟩
      case measure => simp [intOf]; omega
    · have hil : i = len := by omega
      have HD := Lib.hid (show k + (sumL (L.take i) : Nat) = k + (sumL L : Nat) from by rw [hil, ← HLL.out, List.take_length])
      clear hil
      go_wp2
      go_ret
      exact ⟨ret_int HD.out, HM.out, HK.out⟩

set_option maxHeartbeats 1000000 in
theorem markLinkS_kin (v : Value) (xs : List (LinkT)) (S : Nat → Prop) (k : Int) (w0 w : World) (hx0 : linksR S w0 [v] xs) (hK0 : Kin w0 w) (h0 : 0 ≤ k) (h1 : k + cntLinks xs ≤ 1099511627776) :
    Calls Tryz.prog 58 #[v, .int .i64 k] w fun e w' => e = .returned (.int .i64 (k + cntLinks xs)) ∧ Mut S w w' ∧ Kin w w' := by
  obtain ⟨p, cap, rfl, l1, l2, -⟩ := sliceR_open hx0
  obtain ⟨L, hL⟩ : ∃ L : List Nat, xs.map (fun _ => 1 + (1 + (1 + 1))) = L := ⟨_, rfl⟩
  have hcs : cntLinks xs = sumL L := by rw [← hL]; rfl
  rw [hcs] at h1 ⊢
  have HX0 := Lib.hid (markEnd link_kin hx0 hL hK0)
  obtain ⟨len, hlen⟩ : ∃ n, xs.length = n := ⟨_, rfl⟩
  have hLl : L.length = len := by rw [← hL, List.length_map, hlen]
  have HLL := Lib.hid hLl
  rw [hlen] at HX0 l1 ⊢
  unfold maxLen at l2
  clear hx0 hcs hL hlen hLl hK0
  go_enter Tryz.func58, Tryz.ntmps58
  go_wp2_with fail
  go_loopw [1, 5] (fun kk ii wr => ∃ (i : Nat), i ≤ len ∧ ii = .int .i64 i ∧ kk = .int .i64 (k + (sumL (L.take i) : Nat)) ∧ (∃ xs' : List (LinkT), linksR S wr [.slice p len cap] xs' ∧ xs'.map (fun _ => 1 + (1 + (1 + 1))) = L) ∧ Mut S w wr ∧ Kin w wr) (fun _ ii _ => len - (intOf ii).toNat)
  case atStart => exact ⟨0, Nat.zero_le _, rfl, by simp [sumL], HX0.out, Mut.refl _ _, Kin.refl _⟩
  case round =>
    obtain ⟨i, hi, rfl, rfl, ⟨xs', hr, hm⟩, hM, hK⟩ := hrel
    have HR := Lib.hid hr
    have HMm := Lib.hid hm
    have HM := Lib.hid hM
    have HK := Lib.hid hK
    have hs0 := sumTake_le L i
    by_cases hlt : i < len
    · have hl' : i < L.length := by rw [HLL.out]; exact hlt
      have hlx : i < xs'.length := by have h9 := congrArg List.length hm; rw [List.length_map, HLL.out] at h9; omega
      have hst := sumTake L i hl'
      have hs1 := sumTake_le L (i + 1)
      have hLi : L[i] = (fun _ => 1 + (1 + (1 + 1))) (xs'.getD i (0, 0, false, 0)) := by
        have h9 : (xs'.map (fun _ => 1 + (1 + (1 + 1))))[i]'(by simpa using hlx) = L[i] := by simp only [hm]
        rw [← h9, List.getElem_map]
        try simp [List.getD, hlx]
      obtain ⟨p', cap', hv, _, _, h4⟩ := sliceR_open hr
      obtain ⟨rfl, hll, rfl⟩ : p = p' ∧ len = xs'.length ∧ cap = cap' := by simpa using hv
      obtain ⟨b, off, ecs, rfl, e2, e3, e4, e5⟩ := h4 i hlx
      have hgd : xs'.getD i (0, 0, false, 0) = xs'[i] := by simp [List.getD, hlx]
      rw [← hgd] at e5
      clear hr hm hM hK hv h4 hgd hlx hll
      generalize xs'.getD i (0, 0, false, 0) = X at *
      obtain ⟨rfl, eq0, eq1, eq3⟩ := linkR_open e5
      have d0 := (e4 0 (by simp)).1
      have f0 := (e4 0 (by simp)).2
      have d1 := (e4 1 (by simp)).1
      have f1 := (e4 1 (by simp)).2
      have d2 := (e4 2 (by simp)).1
      have f2 := (e4 2 (by simp)).2
      have d3 := (e4 3 (by simp)).1
      have f3 := (e4 3 (by simp)).2
      simp only [List.getElem_cons_zero, List.getElem_cons_succ, Nat.add_zero] at d0 d1 d2 d3
      simp only [Nat.add_zero] at f0
      have HS := Lib.hid e2
      obtain ⟨s, hs⟩ : ∃ s, sumL (L.take i) = s := ⟨_, rfl⟩
      rw [hs, hLi] at hst
      rw [hs] at hs0
      rw [hs]
      have HST := Lib.hid hst
      have hsb : s + (fun _ => 1 + (1 + (1 + 1))) X ≤ sumL L := by rw [← hst]; exact hs1
      clear hst hs1 hLi hs e2 e3 e4 hl'
      try clear e5
      have hii : (i : Int) < (len : Int) := by omega
      have hcx : s + 4 ≤ sumL L := hsb
      clear hsb
      have HST2 := Lib.hid (show sumL (L.take (i + 1)) = s + 4 from HST.out)
      have D0 := Lib.hid d0
      have D1 := Lib.hid d1
      have D2 := Lib.hid d2
      have D3 := Lib.hid d3
      clear eq0 eq1 eq3
      go_wp2
      go_roundw
      case rel => exact ⟨i + 1, by omega, by go_num, by rw [HST2.out]; go_num, markEnd link_kin HR.out HMm.out (by exact (((((Kin.refl wr).setInt D0.out (by unfold I64; omega)).setInt D1.out (by unfold I64; omega)).setBool D2.out).setInt D3.out (by unfold I64; omega))), HM.out.trans (by exact (((((Mut.refl S wr).set b _ _ HS.out).set b _ _ HS.out).set b _ _ HS.out).set b _ _ HS.out)), HK.out.trans (by exact (((((Kin.refl wr).setInt D0.out (by unfold I64; omega)).setInt D1.out (by unfold I64; omega)).setBool D2.out).setInt D3.out (by unfold I64; omega)))⟩
      case measure => simp [intOf]; omega
    · have hil : i = len := by omega
      have HD := Lib.hid (show k + (sumL (L.take i) : Nat) = k + (sumL L : Nat) from by rw [hil, ← HLL.out, List.take_length])
      clear hil
      go_wp2
      go_ret
      exact ⟨ret_int HD.out, HM.out, HK.out⟩

set_option maxHeartbeats 1000000 in
theorem markModeS_kin (v : Value) (xs : List (ModeT)) (S : Nat → Prop) (k : Int) (w0 w : World) (hx0 : modesR S w0 [v] xs) (hK0 : Kin w0 w) (h0 : 0 ≤ k) (h1 : k + cntModes xs ≤ 1099511627776) :
    Calls Tryz.prog 95 #[v, .int .i64 k] w fun e w' => e = .returned (.int .i64 (k + cntModes xs)) ∧ Mut S w w' ∧ Kin w w' := by
  obtain ⟨p, cap, rfl, l1, l2, -⟩ := sliceR_open hx0
  obtain ⟨L, hL⟩ : ∃ L : List Nat, xs.map (cntMode) = L := ⟨_, rfl⟩
  have hcs : cntModes xs = sumL L := by rw [← hL]; rfl
  rw [hcs] at h1 ⊢
  have HX0 := Lib.hid (markEnd mode_kin hx0 hL hK0)
  obtain ⟨len, hlen⟩ : ∃ n, xs.length = n := ⟨_, rfl⟩
  have hLl : L.length = len := by rw [← hL, List.length_map, hlen]
  have HLL := Lib.hid hLl
  rw [hlen] at HX0 l1 ⊢
  unfold maxLen at l2
  clear hx0 hcs hL hlen hLl hK0
  go_enter Tryz.func95, Tryz.ntmps95
  go_wp2_with fail
  go_loopw [1, 5] (fun kk ii wr => ∃ (i : Nat), i ≤ len ∧ ii = .int .i64 i ∧ kk = .int .i64 (k + (sumL (L.take i) : Nat)) ∧ (∃ xs' : List (ModeT), modesR S wr [.slice p len cap] xs' ∧ xs'.map (cntMode) = L) ∧ Mut S w wr ∧ Kin w wr) (fun _ ii _ => len - (intOf ii).toNat)
  case atStart => exact ⟨0, Nat.zero_le _, rfl, by simp [sumL], HX0.out, Mut.refl _ _, Kin.refl _⟩
  case round =>
    obtain ⟨i, hi, rfl, rfl, ⟨xs', hr, hm⟩, hM, hK⟩ := hrel
    have HR := Lib.hid hr
    have HMm := Lib.hid hm
    have HM := Lib.hid hM
    have HK := Lib.hid hK
    have hs0 := sumTake_le L i
    by_cases hlt : i < len
    · have hl' : i < L.length := by rw [HLL.out]; exact hlt
      have hlx : i < xs'.length := by have h9 := congrArg List.length hm; rw [List.length_map, HLL.out] at h9; omega
      have hst := sumTake L i hl'
      have hs1 := sumTake_le L (i + 1)
      have hLi : L[i] = (cntMode) (xs'.getD i (0, [], [])) := by
        have h9 : (xs'.map (cntMode))[i]'(by simpa using hlx) = L[i] := by simp only [hm]
        rw [← h9, List.getElem_map]
        try simp [List.getD, hlx]
      obtain ⟨p', cap', hv, _, _, h4⟩ := sliceR_open hr
      obtain ⟨rfl, hll, rfl⟩ : p = p' ∧ len = xs'.length ∧ cap = cap' := by simpa using hv
      obtain ⟨b, off, ecs, rfl, e2, e3, e4, e5⟩ := h4 i hlx
      have hgd : xs'.getD i (0, [], []) = xs'[i] := by simp [List.getD, hlx]
      rw [← hgd] at e5
      clear hr hm hM hK hv h4 hgd hlx hll
      generalize xs'.getD i (0, [], []) = X at *
      obtain ⟨ec1, ec2, rfl, eq0, eq1, eq2⟩ := modeR_open e5
      obtain ⟨ec1p, ec1k, rfl, -⟩ := sliceR_open eq1
      obtain ⟨ec2p, ec2k, rfl, -⟩ := sliceR_open eq2
      have d0 := (e4 0 (by simp)).1
      have f0 := (e4 0 (by simp)).2
      have d1 := (e4 1 (by simp)).1
      have f1 := (e4 1 (by simp)).2
      have d2 := (e4 2 (by simp)).1
      have f2 := (e4 2 (by simp)).2
      simp only [List.getElem_cons_zero, List.getElem_cons_succ, Nat.add_zero] at d0 d1 d2
      simp only [Nat.add_zero] at f0
      have HS := Lib.hid e2
      obtain ⟨s, hs⟩ : ∃ s, sumL (L.take i) = s := ⟨_, rfl⟩
      rw [hs, hLi] at hst
      rw [hs] at hs0
      rw [hs]
      have HST := Lib.hid hst
      have hsb : s + (cntMode) X ≤ sumL L := by rw [← hst]; exact hs1
      clear hst hs1 hLi hs e2 e3 e4 hl'
      try clear e5
      have hii : (i : Int) < (len : Int) := by omega
      have hcx : s + (1 + (cntInts X.2.1 + cntInts X.2.2)) ≤ sumL L := hsb
      clear hsb
      obtain ⟨n1, hn1⟩ : ∃ n, cntInts X.2.1 = n := ⟨_, rfl⟩
      obtain ⟨n2, hn2⟩ : ∃ n, cntInts X.2.2 = n := ⟨_, rfl⟩
      have HST2 := Lib.hid (show sumL (L.take (i + 1)) = s + (1 + (n1 + n2)) from by rw [HST.out, ← hn1, ← hn2]; try rfl)
      rw [hn1, hn2] at hcx
      have HN1 := Lib.hid hn1
      have HN2 := Lib.hid hn2
      clear hn1 hn2
      have HQ1 := Lib.hid eq1
      clear eq1
      have HQ2 := Lib.hid eq2
      clear eq2
      have D0 := Lib.hid d0
      have D1 := Lib.hid d1
      have D2 := Lib.hid d2
      clear eq0
      go_wp2_with fail
      refine (markIntS_kin _ X.2.1 S _ wr _ HQ1.out (by exact ((Kin.refl wr).setInt D0.out (by unfold I64; omega))) (by omega) (by rw [HN1.out]; omega)).mono ?_
      rintro e v1 ⟨rfl, Mv1, Kv1⟩
      rw [HN1.out]
      have KKv1 : Kin wr v1 := Kin.trans (by exact ((Kin.refl wr).setInt D0.out (by unfold I64; omega))) Kv1
      have MMv1 : Mut S wr v1 := Mut.trans (by exact ((Mut.refl S wr).set b _ _ HS.out)) Mv1
      have d2 := KKv1.slice D2.out
      go_wp2_with fail
      refine (markIntS_kin _ X.2.2 S _ wr _ HQ2.out (by exact KKv1) (by omega) (by rw [HN2.out]; omega)).mono ?_
      rintro e v2 ⟨rfl, Mv2, Kv2⟩
      rw [HN2.out]
      have KKv2 : Kin wr v2 := Kin.trans (by exact KKv1) Kv2
      have MMv2 : Mut S wr v2 := Mut.trans (by exact MMv1) Mv2
      go_wp2
      go_roundw
      case rel => exact ⟨i + 1, by omega, by go_num, by rw [HST2.out]; go_num, markEnd mode_kin HR.out HMm.out (by exact KKv2), HM.out.trans (by exact MMv2), HK.out.trans (by exact KKv2)⟩
      case measure => simp [intOf]; omega
    · have hil : i = len := by omega
      have HD := Lib.hid (show k + (sumL (L.take i) : Nat) = k + (sumL L : Nat) from by rw [hil, ← HLL.out, List.take_length])
      clear hil
      go_wp2
      go_ret
      exact ⟨ret_int HD.out, HM.out, HK.out⟩

set_option maxHeartbeats 1000000 in
theorem markActivityS_kin (v : Value) (xs : List (ActT)) (S : Nat → Prop) (k : Int) (w0 w : World) (hx0 : actsR S w0 [v] xs) (hK0 : Kin w0 w) (h0 : 0 ≤ k) (h1 : k + cntActs xs ≤ 1099511627776) :
    Calls Tryz.prog 57 #[v, .int .i64 k] w fun e w' => e = .returned (.int .i64 (k + cntActs xs)) ∧ Mut S w w' ∧ Kin w w' := by
  obtain ⟨p, cap, rfl, l1, l2, -⟩ := sliceR_open hx0
  obtain ⟨L, hL⟩ : ∃ L : List Nat, xs.map (cntAct) = L := ⟨_, rfl⟩
  have hcs : cntActs xs = sumL L := by rw [← hL]; rfl
  rw [hcs] at h1 ⊢
  have HX0 := Lib.hid (markEnd act_kin hx0 hL hK0)
  obtain ⟨len, hlen⟩ : ∃ n, xs.length = n := ⟨_, rfl⟩
  have hLl : L.length = len := by rw [← hL, List.length_map, hlen]
  have HLL := Lib.hid hLl
  rw [hlen] at HX0 l1 ⊢
  unfold maxLen at l2
  clear hx0 hcs hL hlen hLl hK0
  go_enter Tryz.func57, Tryz.ntmps57
  go_wp2_with fail
  go_loopw [1, 5] (fun kk ii wr => ∃ (i : Nat), i ≤ len ∧ ii = .int .i64 i ∧ kk = .int .i64 (k + (sumL (L.take i) : Nat)) ∧ (∃ xs' : List (ActT), actsR S wr [.slice p len cap] xs' ∧ xs'.map (cntAct) = L) ∧ Mut S w wr ∧ Kin w wr) (fun _ ii _ => len - (intOf ii).toNat)
  case atStart => exact ⟨0, Nat.zero_le _, rfl, by simp [sumL], HX0.out, Mut.refl _ _, Kin.refl _⟩
  case round =>
    obtain ⟨i, hi, rfl, rfl, ⟨xs', hr, hm⟩, hM, hK⟩ := hrel
    have HR := Lib.hid hr
    have HMm := Lib.hid hm
    have HM := Lib.hid hM
    have HK := Lib.hid hK
    have hs0 := sumTake_le L i
    by_cases hlt : i < len
    · have hl' : i < L.length := by rw [HLL.out]; exact hlt
      have hlx : i < xs'.length := by have h9 := congrArg List.length hm; rw [List.length_map, HLL.out] at h9; omega
      have hst := sumTake L i hl'
      have hs1 := sumTake_le L (i + 1)
      have hLi : L[i] = (cntAct) (xs'.getD i (ByteArray.empty, 0, [])) := by
        have h9 : (xs'.map (cntAct))[i]'(by simpa using hlx) = L[i] := by simp only [hm]
        rw [← h9, List.getElem_map]
        try simp [List.getD, hlx]
      obtain ⟨p', cap', hv, _, _, h4⟩ := sliceR_open hr
      obtain ⟨rfl, hll, rfl⟩ : p = p' ∧ len = xs'.length ∧ cap = cap' := by simpa using hv
      obtain ⟨b, off, ecs, rfl, e2, e3, e4, e5⟩ := h4 i hlx
      have hgd : xs'.getD i (ByteArray.empty, 0, []) = xs'[i] := by simp [List.getD, hlx]
      rw [← hgd] at e5
      clear hr hm hM hK hv h4 hgd hlx hll
      generalize xs'.getD i (ByteArray.empty, 0, []) = X at *
      obtain ⟨ec2, rfl, eq0, eq1, eq2⟩ := actR_open e5
      obtain ⟨ec2p, ec2k, rfl, -⟩ := sliceR_open eq2
      have d0 := (e4 0 (by simp)).1
      have f0 := (e4 0 (by simp)).2
      have d1 := (e4 1 (by simp)).1
      have f1 := (e4 1 (by simp)).2
      have d2 := (e4 2 (by simp)).1
      have f2 := (e4 2 (by simp)).2
      simp only [List.getElem_cons_zero, List.getElem_cons_succ, Nat.add_zero] at d0 d1 d2
      simp only [Nat.add_zero] at f0
      have HS := Lib.hid e2
      obtain ⟨s, hs⟩ : ∃ s, sumL (L.take i) = s := ⟨_, rfl⟩
      rw [hs, hLi] at hst
      rw [hs] at hs0
      rw [hs]
      have HST := Lib.hid hst
      have hsb : s + (cntAct) X ≤ sumL L := by rw [← hst]; exact hs1
      clear hst hs1 hLi hs e2 e3 e4 hl'
      try clear e5
      have hii : (i : Int) < (len : Int) := by omega
      have hcx : s + (1 + (1 + cntModes X.2.2)) ≤ sumL L := hsb
      clear hsb
      obtain ⟨n2, hn2⟩ : ∃ n, cntModes X.2.2 = n := ⟨_, rfl⟩
      have HST2 := Lib.hid (show sumL (L.take (i + 1)) = s + (1 + (1 + n2)) from by rw [HST.out, ← hn2]; try rfl)
      rw [hn2] at hcx
      have HN2 := Lib.hid hn2
      clear hn2
      have HQ2 := Lib.hid eq2
      clear eq2
      have D0 := Lib.hid d0
      have D1 := Lib.hid d1
      have D2 := Lib.hid d2
      clear eq0 eq1
      go_wp2_with fail
      refine (markText_any _ _ (by omega) (by omega)).mono ?_
      rintro e w1 ⟨tx, rfl, htx, g1⟩
      have HTX := Lib.hid htx; clear htx
      have f0 := (g1.rules.2 _ _ (lt_of_cell D0.out)).trans f0
      have f1 := (g1.rules.2 _ _ (lt_of_cell D1.out)).trans f1
      have d0 := g1.cell d0
      have d1 := g1.cell d1
      have d2 := g1.cell d2
      go_wp2_with fail
      refine (markModeS_kin _ X.2.2 S _ wr _ HQ2.out (by exact (((Kin.ofBel g1).setStr D0.out HTX.out).setInt D1.out (by unfold I64; omega))) (by omega) (by rw [HN2.out]; omega)).mono ?_
      rintro e v1 ⟨rfl, Mv1, Kv1⟩
      rw [HN2.out]
      have KKv1 : Kin wr v1 := Kin.trans (by exact (((Kin.ofBel g1).setStr D0.out HTX.out).setInt D1.out (by unfold I64; omega))) Kv1
      have MMv1 : Mut S wr v1 := Mut.trans (by exact (((Mut.ofBel g1).set b _ _ HS.out).set b _ _ HS.out)) Mv1
      go_wp2
      go_roundw
      case rel => exact ⟨i + 1, by omega, by go_num, by rw [HST2.out]; go_num, markEnd act_kin HR.out HMm.out (by exact KKv1), HM.out.trans (by exact MMv1), HK.out.trans (by exact KKv1)⟩
      case measure => simp [intOf]; omega
    · have hil : i = len := by omega
      have HD := Lib.hid (show k + (sumL (L.take i) : Nat) = k + (sumL L : Nat) from by rw [hil, ← HLL.out, List.take_length])
      clear hil
      go_wp2
      go_ret
      exact ⟨ret_int HD.out, HM.out, HK.out⟩

set_option maxHeartbeats 1000000 in
theorem markResourceS_kin (v : Value) (xs : List (ResT)) (S : Nat → Prop) (k : Int) (w0 w : World) (hx0 : ressR S w0 [v] xs) (hK0 : Kin w0 w) (h0 : 0 ≤ k) (h1 : k + cntRess xs ≤ 1099511627776) :
    Calls Tryz.prog 59 #[v, .int .i64 k] w fun e w' => e = .returned (.int .i64 (k + cntRess xs)) ∧ Mut S w w' ∧ Kin w w' := by
  obtain ⟨p, cap, rfl, l1, l2, -⟩ := sliceR_open hx0
  obtain ⟨L, hL⟩ : ∃ L : List Nat, xs.map (cntRes) = L := ⟨_, rfl⟩
  have hcs : cntRess xs = sumL L := by rw [← hL]; rfl
  rw [hcs] at h1 ⊢
  have HX0 := Lib.hid (markEnd res_kin hx0 hL hK0)
  obtain ⟨len, hlen⟩ : ∃ n, xs.length = n := ⟨_, rfl⟩
  have hLl : L.length = len := by rw [← hL, List.length_map, hlen]
  have HLL := Lib.hid hLl
  rw [hlen] at HX0 l1 ⊢
  unfold maxLen at l2
  clear hx0 hcs hL hlen hLl hK0
  go_enter Tryz.func59, Tryz.ntmps59
  go_wp2_with fail
  go_loopw [1, 5] (fun kk ii wr => ∃ (i : Nat), i ≤ len ∧ ii = .int .i64 i ∧ kk = .int .i64 (k + (sumL (L.take i) : Nat)) ∧ (∃ xs' : List (ResT), ressR S wr [.slice p len cap] xs' ∧ xs'.map (cntRes) = L) ∧ Mut S w wr ∧ Kin w wr) (fun _ ii _ => len - (intOf ii).toNat)
  case atStart => exact ⟨0, Nat.zero_le _, rfl, by simp [sumL], HX0.out, Mut.refl _ _, Kin.refl _⟩
  case round =>
    obtain ⟨i, hi, rfl, rfl, ⟨xs', hr, hm⟩, hM, hK⟩ := hrel
    have HR := Lib.hid hr
    have HMm := Lib.hid hm
    have HM := Lib.hid hM
    have HK := Lib.hid hK
    have hs0 := sumTake_le L i
    by_cases hlt : i < len
    · have hl' : i < L.length := by rw [HLL.out]; exact hlt
      have hlx : i < xs'.length := by have h9 := congrArg List.length hm; rw [List.length_map, HLL.out] at h9; omega
      have hst := sumTake L i hl'
      have hs1 := sumTake_le L (i + 1)
      have hLi : L[i] = (cntRes) (xs'.getD i ([], [])) := by
        have h9 : (xs'.map (cntRes))[i]'(by simpa using hlx) = L[i] := by simp only [hm]
        rw [← h9, List.getElem_map]
        try simp [List.getD, hlx]
      obtain ⟨p', cap', hv, _, _, h4⟩ := sliceR_open hr
      obtain ⟨rfl, hll, rfl⟩ : p = p' ∧ len = xs'.length ∧ cap = cap' := by simpa using hv
      obtain ⟨b, off, ecs, rfl, e2, e3, e4, e5⟩ := h4 i hlx
      have hgd : xs'.getD i ([], []) = xs'[i] := by simp [List.getD, hlx]
      rw [← hgd] at e5
      clear hr hm hM hK hv h4 hgd hlx hll
      generalize xs'.getD i ([], []) = X at *
      obtain ⟨ec0, ec1, rfl, eq0, eq1⟩ := resR_open e5
      obtain ⟨ec0p, ec0k, rfl, -⟩ := sliceR_open eq0
      obtain ⟨ec1p, ec1k, rfl, -⟩ := sliceR_open eq1
      have d0 := (e4 0 (by simp)).1
      have f0 := (e4 0 (by simp)).2
      have d1 := (e4 1 (by simp)).1
      have f1 := (e4 1 (by simp)).2
      simp only [List.getElem_cons_zero, List.getElem_cons_succ, Nat.add_zero] at d0 d1
      simp only [Nat.add_zero] at f0
      have HS := Lib.hid e2
      obtain ⟨s, hs⟩ : ∃ s, sumL (L.take i) = s := ⟨_, rfl⟩
      rw [hs, hLi] at hst
      rw [hs] at hs0
      rw [hs]
      have HST := Lib.hid hst
      have hsb : s + (cntRes) X ≤ sumL L := by rw [← hst]; exact hs1
      clear hst hs1 hLi hs e2 e3 e4 hl'
      try clear e5
      have hii : (i : Int) < (len : Int) := by omega
      have hcx : s + (cntSteps X.1 + cntRows X.2) ≤ sumL L := hsb
      clear hsb
      obtain ⟨n0, hn0⟩ : ∃ n, cntSteps X.1 = n := ⟨_, rfl⟩
      obtain ⟨n1, hn1⟩ : ∃ n, cntRows X.2 = n := ⟨_, rfl⟩
      have HST2 := Lib.hid (show sumL (L.take (i + 1)) = s + (n0 + n1) from by rw [HST.out, ← hn0, ← hn1]; try rfl)
      rw [hn0, hn1] at hcx
      have HN0 := Lib.hid hn0
      have HN1 := Lib.hid hn1
      clear hn0 hn1
      have HQ0 := Lib.hid eq0
      clear eq0
      have HQ1 := Lib.hid eq1
      clear eq1
      have D0 := Lib.hid d0
      have D1 := Lib.hid d1
      go_wp2_with fail
      refine (markStepS_kin _ X.1 S _ wr _ HQ0.out (by exact (Kin.refl wr)) (by omega) (by rw [HN0.out]; omega)).mono ?_
      rintro e v1 ⟨rfl, Mv1, Kv1⟩
      rw [HN0.out]
      have KKv1 : Kin wr v1 := Kin.trans (by exact (Kin.refl wr)) Kv1
      have MMv1 : Mut S wr v1 := Mut.trans (by exact (Mut.refl S wr)) Mv1
      have d1 := KKv1.slice D1.out
      go_wp2_with fail
      refine (markIntSS_kin _ X.2 S _ wr _ HQ1.out (by exact KKv1) (by omega) (by rw [HN1.out]; omega)).mono ?_
      rintro e v2 ⟨rfl, Mv2, Kv2⟩
      rw [HN1.out]
      have KKv2 : Kin wr v2 := Kin.trans (by exact KKv1) Kv2
      have MMv2 : Mut S wr v2 := Mut.trans (by exact MMv1) Mv2
      go_wp2
      go_roundw
      case rel => exact ⟨i + 1, by omega, by go_num, by rw [HST2.out]; go_num, markEnd res_kin HR.out HMm.out (by exact KKv2), HM.out.trans (by exact MMv2), HK.out.trans (by exact KKv2)⟩
      case measure => simp [intOf]; omega
    · have hil : i = len := by omega
      have HD := Lib.hid (show k + (sumL (L.take i) : Nat) = k + (sumL L : Nat) from by rw [hil, ← HLL.out, List.take_length])
      clear hil
      go_wp2
      go_ret
      exact ⟨ret_int HD.out, HM.out, HK.out⟩

set_option maxHeartbeats 1000000 in
theorem markSchedule_kin (v : Value) (x : SchT) (S : Nat → Prop) (k : Int) (w : World) (U : Int) (hU : U ≤ 1099511627776) (hx : aggR schR S w v x) (h0 : 0 ≤ k) (h1 : k + cntSch x ≤ U) :
    Calls Tryz.prog 23 #[v, .int .i64 k] w fun e w' => ∃ k', e = .returned (.int .i64 k') ∧ 0 ≤ k' ∧ k' ≤ U ∧ Mut S w w' := by
  obtain ⟨cs, rfl, hx⟩ := hx
  obtain ⟨c0, c1, rfl, q0, q1⟩ := schR_open hx
  have H0 := Lib.hid q0
  have H1 := Lib.hid q1
  obtain ⟨c0p, c0k, rfl, _⟩ := sliceR_open q0
  obtain ⟨c1p, c1k, rfl, _⟩ := sliceR_open q1
  clear hx q0 q1
  have hc : k + ((cntInts x.1 + cntInts x.2 : Nat) : Int) ≤ U := h1
  clear h1
  obtain ⟨n0, hn0⟩ : ∃ n, cntInts x.1 = n := ⟨_, rfl⟩
  obtain ⟨n1, hn1⟩ : ∃ n, cntInts x.2 = n := ⟨_, rfl⟩
  rw [hn0, hn1] at hc
  have HN0 := Lib.hid hn0; clear hn0
  have HN1 := Lib.hid hn1; clear hn1
  show Calls Tryz.prog 23 #[.agg #[.slice c0p (x.1).length c0k, .slice c1p (x.2).length c1k], .int .i64 k] w _
  go_enter Tryz.func23, Tryz.ntmps23
  go_wp2_with fail
  refine (markIntS_kin _ x.1 S _ w _ H0.out (by exact (Kin.ofBel (by (repeat (first | assumption | exact Bel.refl _ | apply Bel.drewN | apply Bel.drew | apply Bel.alloc | refine Bel.trans ?_ (by assumption)))))) (by omega) (by rw [HN0.out]; omega)).mono ?_
  rintro e v1 ⟨rfl, Mv1, Kv1⟩
  rw [HN0.out]
  have KKv1 : Kin w v1 := Kin.trans (by exact (Kin.ofBel (by (repeat (first | assumption | exact Bel.refl _ | apply Bel.drewN | apply Bel.drew | apply Bel.alloc | refine Bel.trans ?_ (by assumption)))))) Kv1
  have MMv1 : Mut S w v1 := Mut.trans (by exact (Mut.ofBel (by (repeat (first | assumption | exact Bel.refl _ | apply Bel.drewN | apply Bel.drew | apply Bel.alloc | refine Bel.trans ?_ (by assumption)))))) Mv1
  have b1 := Kv1.slice (b := w.heap.size) (o := 1) (p := c1p) (n := (x.2).length) (c := c1k) (by simp [go_sem])
  go_wp2_with fail
  refine (markIntS_kin _ x.2 S _ w _ H1.out (by exact KKv1) (by omega) (by rw [HN1.out]; omega)).mono ?_
  rintro e v2 ⟨rfl, Mv2, Kv2⟩
  rw [HN1.out]
  have KKv2 : Kin w v2 := Kin.trans (by exact KKv1) Kv2
  have MMv2 : Mut S w v2 := Mut.trans (by exact MMv1) Mv2
  go_wp2
  go_ret
  exact ⟨_, rfl, by omega, by omega, MMv2⟩


set_option maxHeartbeats 1000000 in
theorem markProject_kin (v : Value) (x : ProjT) (S : Nat → Prop) (k : Int) (w : World) (U : Int) (hU : U ≤ 1099511627776) (hx : aggR projR S w v x) (h0 : 0 ≤ k) (h1 : k + cntProj x ≤ U) :
    Calls Tryz.prog 22 #[v, .int .i64 k] w fun e w' => ∃ k', e = .returned (.int .i64 k') ∧ 0 ≤ k' ∧ k' ≤ U ∧ Mut S w w' := by
  obtain ⟨cs, rfl, hx⟩ := hx
  obtain ⟨c1, c2, c3, c4, rfl, q0, q1, q2, q3, q4⟩ := projR_open hx
  have H1 := Lib.hid q1
  have H2 := Lib.hid q2
  have H3 := Lib.hid q3
  have H4 := Lib.hid q4
  obtain ⟨c1p, c1k, rfl, _⟩ := sliceR_open q1
  obtain ⟨c2p, c2k, rfl, _⟩ := sliceR_open q2
  obtain ⟨c3p, c3k, rfl, _⟩ := sliceR_open q3
  obtain ⟨c4p, c4k, rfl, _⟩ := sliceR_open q4
  clear hx q0 q1 q2 q3 q4
  have hc : k + ((1 + (cntActs x.2.1 + (cntLinks x.2.2.1 + (cntRess x.2.2.2.1 + cntInts x.2.2.2.2))) : Nat) : Int) ≤ U := h1
  clear h1
  obtain ⟨n1, hn1⟩ : ∃ n, cntActs x.2.1 = n := ⟨_, rfl⟩
  obtain ⟨n2, hn2⟩ : ∃ n, cntLinks x.2.2.1 = n := ⟨_, rfl⟩
  obtain ⟨n3, hn3⟩ : ∃ n, cntRess x.2.2.2.1 = n := ⟨_, rfl⟩
  obtain ⟨n4, hn4⟩ : ∃ n, cntInts x.2.2.2.2 = n := ⟨_, rfl⟩
  rw [hn1, hn2, hn3, hn4] at hc
  have HN1 := Lib.hid hn1; clear hn1
  have HN2 := Lib.hid hn2; clear hn2
  have HN3 := Lib.hid hn3; clear hn3
  have HN4 := Lib.hid hn4; clear hn4
  show Calls Tryz.prog 22 #[.agg #[.int .i64 x.1, .slice c1p (x.2.1).length c1k, .slice c2p (x.2.2.1).length c2k, .slice c3p (x.2.2.2.1).length c3k, .slice c4p (x.2.2.2.2).length c4k], .int .i64 k] w _
  go_enter Tryz.func22, Tryz.ntmps22
  go_wp2_with fail
  refine (markActivityS_kin _ x.2.1 S _ w _ H1.out (by exact (Kin.ofBel (by (repeat (first | assumption | exact Bel.refl _ | apply Bel.drewN | apply Bel.drew | apply Bel.alloc | refine Bel.trans ?_ (by assumption)))))) (by omega) (by rw [HN1.out]; omega)).mono ?_
  rintro e v1 ⟨rfl, Mv1, Kv1⟩
  rw [HN1.out]
  have KKv1 : Kin w v1 := Kin.trans (by exact (Kin.ofBel (by (repeat (first | assumption | exact Bel.refl _ | apply Bel.drewN | apply Bel.drew | apply Bel.alloc | refine Bel.trans ?_ (by assumption)))))) Kv1
  have MMv1 : Mut S w v1 := Mut.trans (by exact (Mut.ofBel (by (repeat (first | assumption | exact Bel.refl _ | apply Bel.drewN | apply Bel.drew | apply Bel.alloc | refine Bel.trans ?_ (by assumption)))))) Mv1
  have b2 := Kv1.slice (b := w.heap.size) (o := 2) (p := c2p) (n := (x.2.2.1).length) (c := c2k) (by simp [go_sem])
  have b3 := Kv1.slice (b := w.heap.size) (o := 3) (p := c3p) (n := (x.2.2.2.1).length) (c := c3k) (by simp [go_sem])
  have b4 := Kv1.slice (b := w.heap.size) (o := 4) (p := c4p) (n := (x.2.2.2.2).length) (c := c4k) (by simp [go_sem])
  go_wp2_with fail
  refine (markLinkS_kin _ x.2.2.1 S _ w _ H2.out (by exact KKv1) (by omega) (by rw [HN2.out]; omega)).mono ?_
  rintro e v2 ⟨rfl, Mv2, Kv2⟩
  rw [HN2.out]
  have KKv2 : Kin w v2 := Kin.trans (by exact KKv1) Kv2
  have MMv2 : Mut S w v2 := Mut.trans (by exact MMv1) Mv2
  have b3 := Kv2.slice (b := w.heap.size) (o := 3) (p := c3p) (n := (x.2.2.2.1).length) (c := c3k) b3
  have b4 := Kv2.slice (b := w.heap.size) (o := 4) (p := c4p) (n := (x.2.2.2.2).length) (c := c4k) b4
  go_wp2_with fail
  refine (markResourceS_kin _ x.2.2.2.1 S _ w _ H3.out (by exact KKv2) (by omega) (by rw [HN3.out]; omega)).mono ?_
  rintro e v3 ⟨rfl, Mv3, Kv3⟩
  rw [HN3.out]
  have KKv3 : Kin w v3 := Kin.trans (by exact KKv2) Kv3
  have MMv3 : Mut S w v3 := Mut.trans (by exact MMv2) Mv3
  have b4 := Kv3.slice (b := w.heap.size) (o := 4) (p := c4p) (n := (x.2.2.2.2).length) (c := c4k) b4
  go_wp2_with fail
  refine (markIntS_kin _ x.2.2.2.2 S _ w _ H4.out (by exact KKv3) (by omega) (by rw [HN4.out]; omega)).mono ?_
  rintro e v4 ⟨rfl, Mv4, Kv4⟩
  rw [HN4.out]
  have KKv4 : Kin w v4 := Kin.trans (by exact KKv3) Kv4
  have MMv4 : Mut S w v4 := Mut.trans (by exact MMv3) Mv4
  go_wp2
  go_ret
  exact ⟨_, rfl, by omega, by omega, MMv4⟩

end Go.Proofs.YtkfpciggolkjeaaGreatDoor
end

/- Sz -/
section
namespace Go.Proofs.YtkfpciggolkjeaaGreatDoor
open Go.ChangeShapes Go.WideShapes Go.ChangeAt Go.RowKit
set_option linter.unusedVariables false


theorem szStepS_any (v : Value) (xs : List (StepT)) (S : Nat → Prop) (w : World) (left : Int) (hx : stepsR S w [v] xs) (hS : ∀ b, S b → b < w.heap.size) (h0 : 0 ≤ left) (h1 : left ≤ 1048576) :
    Calls Tryz.prog 99 #[v, .int .i64 left] w fun e w' => e = .returned (.int .i64 (szN (bulkStepS xs) left)) ∧ Bel w w' := by
  obtain ⟨p, cap, rfl, h2, h3, _⟩ := sliceR_open hx
  unfold maxLen at h3
  unfold bulkStepS
  clear hx hS
  go_enter Tryz.func99, Tryz.ntmps99
  go_wp2
  all_goals go_ret
  all_goals exact ⟨ret_int (by unfold szN; split <;> omega), Bel.refl _⟩

theorem szLinkS_any (v : Value) (xs : List (LinkT)) (S : Nat → Prop) (w : World) (left : Int) (hx : linksR S w [v] xs) (hS : ∀ b, S b → b < w.heap.size) (h0 : 0 ≤ left) (h1 : left ≤ 1048576) :
    Calls Tryz.prog 26 #[v, .int .i64 left] w fun e w' => e = .returned (.int .i64 (szN (bulkLinkS xs) left)) ∧ Bel w w' := by
  obtain ⟨p, cap, rfl, h2, h3, _⟩ := sliceR_open hx
  unfold maxLen at h3
  unfold bulkLinkS
  clear hx hS
  go_enter Tryz.func26, Tryz.ntmps26
  go_wp2
  all_goals go_ret
  all_goals exact ⟨ret_int (by unfold szN; split <;> omega), Bel.refl _⟩


theorem szIntS_any (v : Value) (xs : List (Int)) (S : Nat → Prop) (w : World) (left : Int) (hx : intsR S w [v] xs) (hS : ∀ b, S b → b < w.heap.size) (h0 : 0 ≤ left) (h1 : left ≤ 1048576) :
    Calls Tryz.prog 28 #[v, .int .i64 left] w fun e w' => e = .returned (.int .i64 (szN (bulkIntS xs) left)) ∧ Bel w w' := by
  obtain ⟨p, cap, rfl, h2, h3, _⟩ := sliceR_open hx
  unfold maxLen at h3
  unfold bulkIntS
  clear hx hS
  go_enter Tryz.func28, Tryz.ntmps28
  go_wp2
  all_goals go_ret
  all_goals exact ⟨ret_int (by unfold szN; split <;> omega), Bel.refl _⟩

theorem szIntSS_any (v : Value) (xs : List (List Int)) (S : Nat → Prop) (w : World) (left : Int) (hx : rowsR S w [v] xs) (hS : ∀ b, S b → b < w.heap.size) (h0 : 0 ≤ left) (h1 : left ≤ 1048576) :
    Calls Tryz.prog 100 #[v, .int .i64 left] w fun e w' => e = .returned (.int .i64 (szN (bulkIntSS xs) left)) ∧ Bel w w' := by
  obtain ⟨p, cap, rfl, h2, h3, h4⟩ := sliceR_open hx
  unfold maxLen at h3
  have HS := Lib.hid hS
  clear hx hS
  by_cases hf : (xs.length : Int) ≤ left
  · go_enter Tryz.func100, Tryz.ntmps100
    go_wp2_with fail
    go_loopw [1, 5] (fun l i wr => ∃ (k : Nat) (c : Int), k ≤ xs.length ∧ i = .int .i64 k ∧ l = .int .i64 c ∧ 0 ≤ c ∧ c ≤ 1048576 ∧ c + xs.length + sumL ((xs.take k).map bulkIntS) = left ∧ Bel w wr) (fun _ i _ => xs.length - (intOf i).toNat)
    case atStart => exact ⟨0, left - xs.length, by omega, rfl, rfl, by omega, by omega, by simp [sumL], Bel.refl _⟩
    case round =>
      obtain ⟨k, c, hk, rfl, rfl, hc0, hc1, hsum, hB⟩ := hrel
      have HC := Lib.hid hsum; clear hsum
      by_cases hlt : k < xs.length
      · obtain ⟨b, off, ecs, rfl, hSb, hlen, hrow, hel⟩ := h4 k hlt
        have hel := intsR_good.bel hel hB HS.out
        obtain ⟨c0, rfl⟩ : ∃ c0, ecs = [c0] := by obtain ⟨p0, cap0, e0, _⟩ := hel; exact ⟨_, e0⟩
        have d0 := hB.cell (hrow 0 (by simp)).1
        simp only [List.getElem_cons_zero, Nat.mul_one, Nat.add_zero] at d0
        have HT := Lib.hid (sumL_take bulkIntS xs k hlt)
        have hSw : ∀ b, S b → b < wr.heap.size := fun b hb => Nat.lt_of_lt_of_le (HS.out b hb) hB.size
        generalize xs[k] = X at *
        clear hlen hrow h4
        go_wp2_with fail
        refine (szIntS_any _ X S _ c hel hSw hc0 hc1).mono ?_
        rintro e w1 ⟨rfl, g1⟩
        have G : Bel w w1 := by (repeat (first | exact Bel.refl _ | apply Bel.drew | apply Bel.alloc | refine Bel.trans ?_ (by assumption)))
        clear g1 hB
        by_cases hfit : (bulkIntS X : Int) ≤ c
        · rw [szN_ok hfit]
          generalize bulkIntS X = m at *
          go_wp2
          go_roundw
          case rel =>
            have h5 := HC.out
            have h6 := HT.out
            exact ⟨k + 1, c - m, by omega, by go_num, rfl, by omega, by omega, by rw [h6]; omega, G⟩
          case measure => simp [intOf]; omega
        · rw [szN_no (by omega)]
          go_wp2
          go_ret
          refine ⟨ret_int ?_, G⟩
          have h5 := HC.out
          have h6 := HT.out
          have h7 := sumL_take_le bulkIntS xs (k + 1)
          rw [szN_no (by unfold bulkIntSS; omega)]
      · go_wp2
        go_ret
        refine ⟨ret_int ?_, hB⟩
        have h5 := HC.out
        rw [List.take_of_length_le (by omega)] at h5
        rw [szN_ok (by unfold bulkIntSS; omega)]
        unfold bulkIntSS
        omega
  · go_enter Tryz.func100, Tryz.ntmps100
    go_wp2
    go_ret
    exact ⟨ret_int (by rw [szN_no (by unfold bulkIntSS; omega)]), Bel.refl _⟩



theorem szMode_any (v : Value) (x : ModeT) (S : Nat → Prop) (w : World) (left : Int) (hx : aggR modeR S w v x) (hS : ∀ b, S b → b < w.heap.size) (h0 : 0 ≤ left) (h1 : left ≤ 1048576) :
    Calls Tryz.prog 121 #[v, .int .i64 left] w fun e w' => e = .returned (.int .i64 (szN (bulkMode x) left)) ∧ Bel w w' := by
  obtain ⟨cs, rfl, hx⟩ := hx
  obtain ⟨c1, c2, rfl, q0, q1, q2⟩ := modeR_open hx
  clear hx
  have HS := Lib.hid hS
  clear hS
  obtain ⟨m0, hm0⟩ : ∃ m, bulkIntS x.2.1 = m := ⟨_, rfl⟩
  obtain ⟨m1, hm1⟩ : ∃ m, bulkIntS x.2.2 = m := ⟨_, rfl⟩
  have HU := Lib.hid (show bulkMode x = m0 + m1 from by unfold bulkMode; rw [hm0, hm1])
  have HM0 := Lib.hid hm0; clear hm0
  have HM1 := Lib.hid hm1; clear hm1
  show Calls Tryz.prog 121 #[.agg #[.int .i64 x.1, c1, c2], .int .i64 left] w _
  go_enter Tryz.func121, Tryz.ntmps121
  go_wp2_with fail
  refine (szIntS_any _ x.2.1 S _ _ (intsR_good.bel q1 (by (repeat (first | exact Bel.refl _ | apply Bel.drew | apply Bel.alloc | refine Bel.trans ?_ (by assumption)))) HS.out) (fun b hb => Nat.lt_of_lt_of_le (HS.out b hb) (Bel.size (by (repeat (first | exact Bel.refl _ | apply Bel.drew | apply Bel.alloc | refine Bel.trans ?_ (by assumption)))))) (by omega) (by omega)).mono ?_
  rintro e w1 ⟨rfl, g⟩
  rw [HM0.out]
  have G1 : Bel w w1 := by (repeat (first | exact Bel.refl _ | apply Bel.drew | apply Bel.alloc | refine Bel.trans ?_ (by assumption)))
  obtain ⟨hc1, hf1⟩ := g.rules
  have hz1 : w.heap.size < w1.heap.size := by have := g.size; simp only [World.size_alloc] at this; omega
  clear g
  by_cases hfit0 : (m0 : Int) ≤ left
  · rw [szN_ok hfit0]
    go_wp2_with fail
    refine (szIntS_any _ x.2.2 S _ _ (intsR_good.bel q2 (by (repeat (first | exact Bel.refl _ | apply Bel.drew | apply Bel.alloc | refine Bel.trans ?_ (by assumption)))) HS.out) (fun b hb => Nat.lt_of_lt_of_le (HS.out b hb) (Bel.size (by (repeat (first | exact Bel.refl _ | apply Bel.drew | apply Bel.alloc | refine Bel.trans ?_ (by assumption)))))) (by omega) (by omega)).mono ?_
    rintro e w2 ⟨rfl, g⟩
    rw [HM1.out]
    have G2 : Bel w w2 := by (repeat (first | exact Bel.refl _ | apply Bel.drew | apply Bel.alloc | refine Bel.trans ?_ (by assumption)))
    obtain ⟨hc2, hf2⟩ := g.rules
    have hz2 : w.heap.size < w2.heap.size := by have := g.size; omega
    clear g
    by_cases hfit1 : (m1 : Int) ≤ left - m0
    · rw [szN_ok hfit1]
      go_wp2
      go_ret
      exact ⟨ret_int (by rw [HU.out, szN_ok (by omega)]; omega), by (repeat (first | exact Bel.refl _ | apply Bel.drew | apply Bel.alloc | refine Bel.trans ?_ (by assumption)))⟩
    · rw [szN_no (by omega)]
      go_wp2
      go_ret
      exact ⟨ret_int (by rw [HU.out, szN_no (by omega)]), by (repeat (first | exact Bel.refl _ | apply Bel.drew | apply Bel.alloc | refine Bel.trans ?_ (by assumption)))⟩
  · rw [szN_no (by omega)]
    go_wp2
    go_ret
    exact ⟨ret_int (by rw [HU.out, szN_no (by omega)]), by (repeat (first | exact Bel.refl _ | apply Bel.drew | apply Bel.alloc | refine Bel.trans ?_ (by assumption)))⟩

theorem szModeS_any (v : Value) (xs : List (ModeT)) (S : Nat → Prop) (w : World) (left : Int) (hx : modesR S w [v] xs) (hS : ∀ b, S b → b < w.heap.size) (h0 : 0 ≤ left) (h1 : left ≤ 1048576) :
    Calls Tryz.prog 98 #[v, .int .i64 left] w fun e w' => e = .returned (.int .i64 (szN (bulkModeS xs) left)) ∧ Bel w w' := by
  obtain ⟨p, cap, rfl, h2, h3, h4⟩ := sliceR_open hx
  unfold maxLen at h3
  have HS := Lib.hid hS
  clear hx hS
  by_cases hf : (xs.length : Int) ≤ left
  · go_enter Tryz.func98, Tryz.ntmps98
    go_wp2_with fail
    go_loopw [1, 5] (fun l i wr => ∃ (k : Nat) (c : Int), k ≤ xs.length ∧ i = .int .i64 k ∧ l = .int .i64 c ∧ 0 ≤ c ∧ c ≤ 1048576 ∧ c + xs.length + sumL ((xs.take k).map bulkMode) = left ∧ Bel w wr) (fun _ i _ => xs.length - (intOf i).toNat)
    case atStart => exact ⟨0, left - xs.length, by omega, rfl, rfl, by omega, by omega, by simp [sumL], Bel.refl _⟩
    case round =>
      obtain ⟨k, c, hk, rfl, rfl, hc0, hc1, hsum, hB⟩ := hrel
      have HC := Lib.hid hsum; clear hsum
      by_cases hlt : k < xs.length
      · obtain ⟨b, off, ecs, rfl, hSb, hlen, hrow, hel⟩ := h4 k hlt
        have hel := modeR_good.bel hel hB HS.out
        obtain ⟨c1, c2, rfl, q0, q1, q2⟩ := modeR_open hel
        have d0 := hB.cell (hrow 0 (by simp)).1
        have d1 := hB.cell (hrow 1 (by simp)).1
        have d2 := hB.cell (hrow 2 (by simp)).1
        simp only [List.getElem_cons_zero, List.getElem_cons_succ, Nat.add_zero] at d0 d1 d2
        have HT := Lib.hid (sumL_take bulkMode xs k hlt)
        have hSw : ∀ b, S b → b < wr.heap.size := fun b hb => Nat.lt_of_lt_of_le (HS.out b hb) hB.size
        generalize xs[k] = X at *
        clear hlen hrow h4
        go_wp2_with fail
        refine (szMode_any _ X S _ c ⟨_, rfl, hel⟩ hSw hc0 hc1).mono ?_
        rintro e w1 ⟨rfl, g1⟩
        have G : Bel w w1 := by (repeat (first | exact Bel.refl _ | apply Bel.drew | apply Bel.alloc | refine Bel.trans ?_ (by assumption)))
        clear g1 hB
        by_cases hfit : (bulkMode X : Int) ≤ c
        · rw [szN_ok hfit]
          generalize bulkMode X = m at *
          go_wp2
          go_roundw
          case rel =>
            have h5 := HC.out
            have h6 := HT.out
            exact ⟨k + 1, c - m, by omega, by go_num, rfl, by omega, by omega, by rw [h6]; omega, G⟩
          case measure => simp [intOf]; omega
        · rw [szN_no (by omega)]
          go_wp2
          go_ret
          refine ⟨ret_int ?_, G⟩
          have h5 := HC.out
          have h6 := HT.out
          have h7 := sumL_take_le bulkMode xs (k + 1)
          rw [szN_no (by unfold bulkModeS; omega)]
      · go_wp2
        go_ret
        refine ⟨ret_int ?_, hB⟩
        have h5 := HC.out
        rw [List.take_of_length_le (by omega)] at h5
        rw [szN_ok (by unfold bulkModeS; omega)]
        unfold bulkModeS
        omega
  · go_enter Tryz.func98, Tryz.ntmps98
    go_wp2
    go_ret
    exact ⟨ret_int (by rw [szN_no (by unfold bulkModeS; omega)]), Bel.refl _⟩

theorem szActivity_any (v : Value) (x : ActT) (S : Nat → Prop) (w : World) (left : Int) (hx : aggR actR S w v x) (hS : ∀ b, S b → b < w.heap.size) (h0 : 0 ≤ left) (h1 : left ≤ 1048576) :
    Calls Tryz.prog 62 #[v, .int .i64 left] w fun e w' => e = .returned (.int .i64 (szN (bulkActivity x) left)) ∧ Bel w w' := by
  obtain ⟨cs, rfl, hx⟩ := hx
  obtain ⟨c2, rfl, q0, q1, q2⟩ := actR_open hx
  clear hx
  have HS := Lib.hid hS
  clear hS
  obtain ⟨m0, hm0⟩ : ∃ m, (x.1).size = m := ⟨_, rfl⟩
  obtain ⟨m1, hm1⟩ : ∃ m, bulkModeS x.2.2 = m := ⟨_, rfl⟩
  have HU := Lib.hid (show bulkActivity x = m0 + m1 from by unfold bulkActivity; rw [hm0, hm1])
  have HM0 := Lib.hid hm0; clear hm0
  have HM1 := Lib.hid hm1; clear hm1
  have hq : (x.1).size ≤ maxLen := q0
  unfold maxLen at hq
  show Calls Tryz.prog 62 #[.agg #[.string x.1, .int .i64 x.2.1, c2], .int .i64 left] w _
  have hq0 : (m0 : Int) ≤ 9223372036854775807 := by rw [← HM0.out]; omega
  by_cases hfit0 : (m0 : Int) ≤ left
  · have hlt : ((x.1).size : Int) ≤ left := by rw [HM0.out]; exact hfit0
    go_enter Tryz.func62, Tryz.ntmps62
    go_wp2_with fail
    refine (szModeS_any _ x.2.2 S _ _ (modesR_good.bel q2 (by (repeat (first | exact Bel.refl _ | apply Bel.drew | apply Bel.alloc | refine Bel.trans ?_ (by assumption)))) HS.out) (fun b hb => Nat.lt_of_lt_of_le (HS.out b hb) (Bel.size (by (repeat (first | exact Bel.refl _ | apply Bel.drew | apply Bel.alloc | refine Bel.trans ?_ (by assumption)))))) (by omega) (by omega)).mono ?_
    rintro e w1 ⟨rfl, g⟩
    rw [HM1.out]
    have G1 : Bel w w1 := by (repeat (first | exact Bel.refl _ | apply Bel.drew | apply Bel.alloc | refine Bel.trans ?_ (by assumption)))
    clear g
    have H0 := HM0.out
    by_cases hfit1 : (m1 : Int) ≤ left - (x.1).size
    · rw [szN_ok hfit1]
      have HZ := Lib.hid H0; clear H0
      go_wp2
      go_ret
      exact ⟨ret_int (by have := HZ.out; rw [HU.out, szN_ok (by omega)]; omega), G1⟩
    · rw [szN_no (by omega)]
      have HZ := Lib.hid H0; clear H0
      go_wp2
      go_ret
      exact ⟨ret_int (by have := HZ.out; rw [HU.out, szN_no (by omega)]), G1⟩
  · have hlt : left < ((x.1).size : Int) := by rw [HM0.out]; omega
    go_enter Tryz.func62, Tryz.ntmps62
    go_wp2
    go_ret
    exact ⟨ret_int (by rw [HU.out, szN_no (by omega)]), by (repeat (first | exact Bel.refl _ | apply Bel.drew | apply Bel.alloc | refine Bel.trans ?_ (by assumption)))⟩

theorem szActivityS_any (v : Value) (xs : List (ActT)) (S : Nat → Prop) (w : World) (left : Int) (hx : actsR S w [v] xs) (hS : ∀ b, S b → b < w.heap.size) (h0 : 0 ≤ left) (h1 : left ≤ 1048576) :
    Calls Tryz.prog 25 #[v, .int .i64 left] w fun e w' => e = .returned (.int .i64 (szN (bulkActivityS xs) left)) ∧ Bel w w' := by
  obtain ⟨p, cap, rfl, h2, h3, h4⟩ := sliceR_open hx
  unfold maxLen at h3
  have HS := Lib.hid hS
  clear hx hS
  by_cases hf : (xs.length : Int) ≤ left
  · go_enter Tryz.func25, Tryz.ntmps25
    go_wp2_with fail
    go_loopw [1, 5] (fun l i wr => ∃ (k : Nat) (c : Int), k ≤ xs.length ∧ i = .int .i64 k ∧ l = .int .i64 c ∧ 0 ≤ c ∧ c ≤ 1048576 ∧ c + xs.length + sumL ((xs.take k).map bulkActivity) = left ∧ Bel w wr) (fun _ i _ => xs.length - (intOf i).toNat)
    case atStart => exact ⟨0, left - xs.length, by omega, rfl, rfl, by omega, by omega, by simp [sumL], Bel.refl _⟩
    case round =>
      obtain ⟨k, c, hk, rfl, rfl, hc0, hc1, hsum, hB⟩ := hrel
      have HC := Lib.hid hsum; clear hsum
      by_cases hlt : k < xs.length
      · obtain ⟨b, off, ecs, rfl, hSb, hlen, hrow, hel⟩ := h4 k hlt
        have hel := actR_good.bel hel hB HS.out
        obtain ⟨c2, rfl, q0, q1, q2⟩ := actR_open hel
        have d0 := hB.cell (hrow 0 (by simp)).1
        have d1 := hB.cell (hrow 1 (by simp)).1
        have d2 := hB.cell (hrow 2 (by simp)).1
        simp only [List.getElem_cons_zero, List.getElem_cons_succ, Nat.add_zero] at d0 d1 d2
        have HT := Lib.hid (sumL_take bulkActivity xs k hlt)
        have hSw : ∀ b, S b → b < wr.heap.size := fun b hb => Nat.lt_of_lt_of_le (HS.out b hb) hB.size
        generalize xs[k] = X at *
        clear hlen hrow h4
        go_wp2_with fail
        refine (szActivity_any _ X S _ c ⟨_, rfl, hel⟩ hSw hc0 hc1).mono ?_
        rintro e w1 ⟨rfl, g1⟩
        have G : Bel w w1 := by (repeat (first | exact Bel.refl _ | apply Bel.drew | apply Bel.alloc | refine Bel.trans ?_ (by assumption)))
        clear g1 hB
        by_cases hfit : (bulkActivity X : Int) ≤ c
        · rw [szN_ok hfit]
          generalize bulkActivity X = m at *
          go_wp2
          go_roundw
          case rel =>
            have h5 := HC.out
            have h6 := HT.out
            exact ⟨k + 1, c - m, by omega, by go_num, rfl, by omega, by omega, by rw [h6]; omega, G⟩
          case measure => simp [intOf]; omega
        · rw [szN_no (by omega)]
          go_wp2
          go_ret
          refine ⟨ret_int ?_, G⟩
          have h5 := HC.out
          have h6 := HT.out
          have h7 := sumL_take_le bulkActivity xs (k + 1)
          rw [szN_no (by unfold bulkActivityS; omega)]
      · go_wp2
        go_ret
        refine ⟨ret_int ?_, hB⟩
        have h5 := HC.out
        rw [List.take_of_length_le (by omega)] at h5
        rw [szN_ok (by unfold bulkActivityS; omega)]
        unfold bulkActivityS
        omega
  · go_enter Tryz.func25, Tryz.ntmps25
    go_wp2
    go_ret
    exact ⟨ret_int (by rw [szN_no (by unfold bulkActivityS; omega)]), Bel.refl _⟩

theorem szResource_any (v : Value) (x : ResT) (S : Nat → Prop) (w : World) (left : Int) (hx : aggR resR S w v x) (hS : ∀ b, S b → b < w.heap.size) (h0 : 0 ≤ left) (h1 : left ≤ 1048576) :
    Calls Tryz.prog 63 #[v, .int .i64 left] w fun e w' => e = .returned (.int .i64 (szN (bulkResource x) left)) ∧ Bel w w' := by
  obtain ⟨cs, rfl, hx⟩ := hx
  obtain ⟨c0, c1, rfl, q0, q1⟩ := resR_open hx
  clear hx
  have HS := Lib.hid hS
  clear hS
  obtain ⟨m0, hm0⟩ : ∃ m, bulkStepS x.1 = m := ⟨_, rfl⟩
  obtain ⟨m1, hm1⟩ : ∃ m, bulkIntSS x.2 = m := ⟨_, rfl⟩
  have HU := Lib.hid (show bulkResource x = m0 + m1 from by unfold bulkResource; rw [hm0, hm1])
  have HM0 := Lib.hid hm0; clear hm0
  have HM1 := Lib.hid hm1; clear hm1
  show Calls Tryz.prog 63 #[.agg #[c0, c1], .int .i64 left] w _
  go_enter Tryz.func63, Tryz.ntmps63
  go_wp2_with fail
  refine (szStepS_any _ x.1 S _ _ (stepsR_good.bel q0 (by (repeat (first | exact Bel.refl _ | apply Bel.drew | apply Bel.alloc | refine Bel.trans ?_ (by assumption)))) HS.out) (fun b hb => Nat.lt_of_lt_of_le (HS.out b hb) (Bel.size (by (repeat (first | exact Bel.refl _ | apply Bel.drew | apply Bel.alloc | refine Bel.trans ?_ (by assumption)))))) (by omega) (by omega)).mono ?_
  rintro e w1 ⟨rfl, g⟩
  rw [HM0.out]
  have G1 : Bel w w1 := by (repeat (first | exact Bel.refl _ | apply Bel.drew | apply Bel.alloc | refine Bel.trans ?_ (by assumption)))
  obtain ⟨hc1, hf1⟩ := g.rules
  have hz1 : w.heap.size < w1.heap.size := by have := g.size; simp only [World.size_alloc] at this; omega
  clear g
  by_cases hfit0 : (m0 : Int) ≤ left
  · rw [szN_ok hfit0]
    go_wp2_with fail
    refine (szIntSS_any _ x.2 S _ _ (rowsR_good.bel q1 (by (repeat (first | exact Bel.refl _ | apply Bel.drew | apply Bel.alloc | refine Bel.trans ?_ (by assumption)))) HS.out) (fun b hb => Nat.lt_of_lt_of_le (HS.out b hb) (Bel.size (by (repeat (first | exact Bel.refl _ | apply Bel.drew | apply Bel.alloc | refine Bel.trans ?_ (by assumption)))))) (by omega) (by omega)).mono ?_
    rintro e w2 ⟨rfl, g⟩
    rw [HM1.out]
    have G2 : Bel w w2 := by (repeat (first | exact Bel.refl _ | apply Bel.drew | apply Bel.alloc | refine Bel.trans ?_ (by assumption)))
    obtain ⟨hc2, hf2⟩ := g.rules
    have hz2 : w.heap.size < w2.heap.size := by have := g.size; omega
    clear g
    by_cases hfit1 : (m1 : Int) ≤ left - m0
    · rw [szN_ok hfit1]
      go_wp2
      go_ret
      exact ⟨ret_int (by rw [HU.out, szN_ok (by omega)]; omega), by (repeat (first | exact Bel.refl _ | apply Bel.drew | apply Bel.alloc | refine Bel.trans ?_ (by assumption)))⟩
    · rw [szN_no (by omega)]
      go_wp2
      go_ret
      exact ⟨ret_int (by rw [HU.out, szN_no (by omega)]), by (repeat (first | exact Bel.refl _ | apply Bel.drew | apply Bel.alloc | refine Bel.trans ?_ (by assumption)))⟩
  · rw [szN_no (by omega)]
    go_wp2
    go_ret
    exact ⟨ret_int (by rw [HU.out, szN_no (by omega)]), by (repeat (first | exact Bel.refl _ | apply Bel.drew | apply Bel.alloc | refine Bel.trans ?_ (by assumption)))⟩

theorem szResourceS_any (v : Value) (xs : List (ResT)) (S : Nat → Prop) (w : World) (left : Int) (hx : ressR S w [v] xs) (hS : ∀ b, S b → b < w.heap.size) (h0 : 0 ≤ left) (h1 : left ≤ 1048576) :
    Calls Tryz.prog 27 #[v, .int .i64 left] w fun e w' => e = .returned (.int .i64 (szN (bulkResourceS xs) left)) ∧ Bel w w' := by
  obtain ⟨p, cap, rfl, h2, h3, h4⟩ := sliceR_open hx
  unfold maxLen at h3
  have HS := Lib.hid hS
  clear hx hS
  by_cases hf : (xs.length : Int) ≤ left
  · go_enter Tryz.func27, Tryz.ntmps27
    go_wp2_with fail
    go_loopw [1, 5] (fun l i wr => ∃ (k : Nat) (c : Int), k ≤ xs.length ∧ i = .int .i64 k ∧ l = .int .i64 c ∧ 0 ≤ c ∧ c ≤ 1048576 ∧ c + xs.length + sumL ((xs.take k).map bulkResource) = left ∧ Bel w wr) (fun _ i _ => xs.length - (intOf i).toNat)
    case atStart => exact ⟨0, left - xs.length, by omega, rfl, rfl, by omega, by omega, by simp [sumL], Bel.refl _⟩
    case round =>
      obtain ⟨k, c, hk, rfl, rfl, hc0, hc1, hsum, hB⟩ := hrel
      have HC := Lib.hid hsum; clear hsum
      by_cases hlt : k < xs.length
      · obtain ⟨b, off, ecs, rfl, hSb, hlen, hrow, hel⟩ := h4 k hlt
        have hel := resR_good.bel hel hB HS.out
        obtain ⟨c0, c1, rfl, q0, q1⟩ := resR_open hel
        have d0 := hB.cell (hrow 0 (by simp)).1
        have d1 := hB.cell (hrow 1 (by simp)).1
        simp only [List.getElem_cons_zero, List.getElem_cons_succ, Nat.add_zero] at d0 d1
        have HT := Lib.hid (sumL_take bulkResource xs k hlt)
        have hSw : ∀ b, S b → b < wr.heap.size := fun b hb => Nat.lt_of_lt_of_le (HS.out b hb) hB.size
        generalize xs[k] = X at *
        clear hlen hrow h4
        go_wp2_with fail
        refine (szResource_any _ X S _ c ⟨_, rfl, hel⟩ hSw hc0 hc1).mono ?_
        rintro e w1 ⟨rfl, g1⟩
        have G : Bel w w1 := by (repeat (first | exact Bel.refl _ | apply Bel.drew | apply Bel.alloc | refine Bel.trans ?_ (by assumption)))
        clear g1 hB
        by_cases hfit : (bulkResource X : Int) ≤ c
        · rw [szN_ok hfit]
          generalize bulkResource X = m at *
          go_wp2
          go_roundw
          case rel =>
            have h5 := HC.out
            have h6 := HT.out
            exact ⟨k + 1, c - m, by omega, by go_num, rfl, by omega, by omega, by rw [h6]; omega, G⟩
          case measure => simp [intOf]; omega
        · rw [szN_no (by omega)]
          go_wp2
          go_ret
          refine ⟨ret_int ?_, G⟩
          have h5 := HC.out
          have h6 := HT.out
          have h7 := sumL_take_le bulkResource xs (k + 1)
          rw [szN_no (by unfold bulkResourceS; omega)]
      · go_wp2
        go_ret
        refine ⟨ret_int ?_, hB⟩
        have h5 := HC.out
        rw [List.take_of_length_le (by omega)] at h5
        rw [szN_ok (by unfold bulkResourceS; omega)]
        unfold bulkResourceS
        omega
  · go_enter Tryz.func27, Tryz.ntmps27
    go_wp2
    go_ret
    exact ⟨ret_int (by rw [szN_no (by unfold bulkResourceS; omega)]), Bel.refl _⟩

theorem szProject_any (v : Value) (x : ProjT) (S : Nat → Prop) (w : World) (left : Int) (hx : aggR projR S w v x) (hS : ∀ b, S b → b < w.heap.size) (h0 : 0 ≤ left) (h1 : left ≤ 1048576) :
    Calls Tryz.prog 7 #[v, .int .i64 left] w fun e w' => e = .returned (.int .i64 (szN (bulkProject x) left)) ∧ Bel w w' := by
  obtain ⟨cs, rfl, hx⟩ := hx
  obtain ⟨c1, c2, c3, c4, rfl, q0, q1, q2, q3, q4⟩ := projR_open hx
  clear hx
  have HS := Lib.hid hS
  clear hS
  obtain ⟨m0, hm0⟩ : ∃ m, bulkActivityS x.2.1 = m := ⟨_, rfl⟩
  obtain ⟨m1, hm1⟩ : ∃ m, bulkLinkS x.2.2.1 = m := ⟨_, rfl⟩
  obtain ⟨m2, hm2⟩ : ∃ m, bulkResourceS x.2.2.2.1 = m := ⟨_, rfl⟩
  obtain ⟨m3, hm3⟩ : ∃ m, bulkIntS x.2.2.2.2 = m := ⟨_, rfl⟩
  have HU := Lib.hid (show bulkProject x = m0 + m1 + m2 + m3 from by unfold bulkProject; rw [hm0, hm1, hm2, hm3])
  have HM0 := Lib.hid hm0; clear hm0
  have HM1 := Lib.hid hm1; clear hm1
  have HM2 := Lib.hid hm2; clear hm2
  have HM3 := Lib.hid hm3; clear hm3
  show Calls Tryz.prog 7 #[.agg #[.int .i64 x.1, c1, c2, c3, c4], .int .i64 left] w _
  go_enter Tryz.func7, Tryz.ntmps7
  go_wp2_with fail
  refine (szActivityS_any _ x.2.1 S _ _ (actsR_good.bel q1 (by (repeat (first | exact Bel.refl _ | apply Bel.drew | apply Bel.alloc | refine Bel.trans ?_ (by assumption)))) HS.out) (fun b hb => Nat.lt_of_lt_of_le (HS.out b hb) (Bel.size (by (repeat (first | exact Bel.refl _ | apply Bel.drew | apply Bel.alloc | refine Bel.trans ?_ (by assumption)))))) (by omega) (by omega)).mono ?_
  rintro e w1 ⟨rfl, g⟩
  rw [HM0.out]
  have G1 : Bel w w1 := by (repeat (first | exact Bel.refl _ | apply Bel.drew | apply Bel.alloc | refine Bel.trans ?_ (by assumption)))
  obtain ⟨hc1, hf1⟩ := g.rules
  have hz1 : w.heap.size < w1.heap.size := by have := g.size; simp only [World.size_alloc] at this; omega
  clear g
  by_cases hfit0 : (m0 : Int) ≤ left
  · rw [szN_ok hfit0]
    go_wp2_with fail
    refine (szLinkS_any _ x.2.2.1 S _ _ (linksR_good.bel q2 (by (repeat (first | exact Bel.refl _ | apply Bel.drew | apply Bel.alloc | refine Bel.trans ?_ (by assumption)))) HS.out) (fun b hb => Nat.lt_of_lt_of_le (HS.out b hb) (Bel.size (by (repeat (first | exact Bel.refl _ | apply Bel.drew | apply Bel.alloc | refine Bel.trans ?_ (by assumption)))))) (by omega) (by omega)).mono ?_
    rintro e w2 ⟨rfl, g⟩
    rw [HM1.out]
    have G2 : Bel w w2 := by (repeat (first | exact Bel.refl _ | apply Bel.drew | apply Bel.alloc | refine Bel.trans ?_ (by assumption)))
    obtain ⟨hc2, hf2⟩ := g.rules
    have hz2 : w.heap.size < w2.heap.size := by have := g.size; omega
    clear g
    by_cases hfit1 : (m1 : Int) ≤ left - m0
    · rw [szN_ok hfit1]
      go_wp2_with fail
      refine (szResourceS_any _ x.2.2.2.1 S _ _ (ressR_good.bel q3 (by (repeat (first | exact Bel.refl _ | apply Bel.drew | apply Bel.alloc | refine Bel.trans ?_ (by assumption)))) HS.out) (fun b hb => Nat.lt_of_lt_of_le (HS.out b hb) (Bel.size (by (repeat (first | exact Bel.refl _ | apply Bel.drew | apply Bel.alloc | refine Bel.trans ?_ (by assumption)))))) (by omega) (by omega)).mono ?_
      rintro e w3 ⟨rfl, g⟩
      rw [HM2.out]
      have G3 : Bel w w3 := by (repeat (first | exact Bel.refl _ | apply Bel.drew | apply Bel.alloc | refine Bel.trans ?_ (by assumption)))
      obtain ⟨hc3, hf3⟩ := g.rules
      have hz3 : w.heap.size < w3.heap.size := by have := g.size; omega
      clear g
      by_cases hfit2 : (m2 : Int) ≤ left - m0 - m1
      · rw [szN_ok hfit2]
        go_wp2_with fail
        refine (szIntS_any _ x.2.2.2.2 S _ _ (intsR_good.bel q4 (by (repeat (first | exact Bel.refl _ | apply Bel.drew | apply Bel.alloc | refine Bel.trans ?_ (by assumption)))) HS.out) (fun b hb => Nat.lt_of_lt_of_le (HS.out b hb) (Bel.size (by (repeat (first | exact Bel.refl _ | apply Bel.drew | apply Bel.alloc | refine Bel.trans ?_ (by assumption)))))) (by omega) (by omega)).mono ?_
        rintro e w4 ⟨rfl, g⟩
        rw [HM3.out]
        have G4 : Bel w w4 := by (repeat (first | exact Bel.refl _ | apply Bel.drew | apply Bel.alloc | refine Bel.trans ?_ (by assumption)))
        obtain ⟨hc4, hf4⟩ := g.rules
        have hz4 : w.heap.size < w4.heap.size := by have := g.size; omega
        clear g
        by_cases hfit3 : (m3 : Int) ≤ left - m0 - m1 - m2
        · rw [szN_ok hfit3]
          go_wp2
          go_ret
          exact ⟨ret_int (by rw [HU.out, szN_ok (by omega)]; omega), by (repeat (first | exact Bel.refl _ | apply Bel.drew | apply Bel.alloc | refine Bel.trans ?_ (by assumption)))⟩
        · rw [szN_no (by omega)]
          go_wp2
          go_ret
          exact ⟨ret_int (by rw [HU.out, szN_no (by omega)]), by (repeat (first | exact Bel.refl _ | apply Bel.drew | apply Bel.alloc | refine Bel.trans ?_ (by assumption)))⟩
      · rw [szN_no (by omega)]
        go_wp2
        go_ret
        exact ⟨ret_int (by rw [HU.out, szN_no (by omega)]), by (repeat (first | exact Bel.refl _ | apply Bel.drew | apply Bel.alloc | refine Bel.trans ?_ (by assumption)))⟩
    · rw [szN_no (by omega)]
      go_wp2
      go_ret
      exact ⟨ret_int (by rw [HU.out, szN_no (by omega)]), by (repeat (first | exact Bel.refl _ | apply Bel.drew | apply Bel.alloc | refine Bel.trans ?_ (by assumption)))⟩
  · rw [szN_no (by omega)]
    go_wp2
    go_ret
    exact ⟨ret_int (by rw [HU.out, szN_no (by omega)]), by (repeat (first | exact Bel.refl _ | apply Bel.drew | apply Bel.alloc | refine Bel.trans ?_ (by assumption)))⟩

end Go.Proofs.YtkfpciggolkjeaaGreatDoor
end
