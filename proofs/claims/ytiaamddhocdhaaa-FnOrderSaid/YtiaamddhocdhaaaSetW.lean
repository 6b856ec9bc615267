/- Sets of ints: SetOf of the program; l02Put, SetOf, SetAdd of the reference. -/
import Derived.Test.YtiaamddhocdhaaaSort
import Derived.Test.YtiaamddhocdhaaaApps
import Derived.Test.YtiaamddhocdhaaaSetF
namespace Go.Proofs.Ytiaamddhocdhaaa
open Go.ChangeShapes Go.WideShapes Go.ChangeAt Go.RowKit
set_option linter.unusedVariables false

/-- A set that a call hands back: its row lies in memory that T names or in new memory; it is not nil. -/
def SetR (T : Nat → Prop) (w : World) (xs : List Int) (e : Ending) (w' : World) : Prop := ∃ b off c, e = .returned (.slice (some ⟨b, off, none⟩) xs.length c) ∧ intsR (fun k => T k ∨ New w w' k) w' [.slice (some ⟨b, off, none⟩) xs.length c] xs ∧ Bel w w'
section
variable {e : TypeId} {B : Nat}
theorem ownI_row {w : World} {p : Option Addr} {cap : Nat} {xs : List Int} (h : OwnI e B w p cap xs) (hp : p ≠ none) : ∃ (g : Nat) (R : Nat → Value), p = some ⟨g, 0, none⟩ ∧ B ≤ g ∧ xs.length ≤ cap ∧ cap ≤ maxLen ∧ w.rowIs g e cap (rowN xs.length (fun a => xs.getD a 0) R) := by
  obtain ⟨⟨h1, h2⟩, h3⟩ := h
  rcases h2 with ⟨h4, _⟩ | ⟨g, cap', cur, h4, h5, h6, h7, h8, h9, h10⟩
  · exfalso; apply hp; have h5 : p = none ∧ xs.length = 0 ∧ cap = 0 := by simpa using h4
    exact h5.1
  · obtain ⟨rfl, rfl⟩ : p = some ⟨g, 0, none⟩ ∧ cap = cap' := by simpa using h4
    refine ⟨g, fun a => (cur[a]?).getD default, rfl, h5, h7, h8, cur, h6, by simpa using h9, fun i hi => ?_⟩
    unfold rowN
    have hsz : cur.size = cap := by simpa using h9
    by_cases hlt : i < xs.length
    · rw [if_pos hlt]
      have h11 : (cur.toList.take (xs.map (Value.int .i64)).length)[i]? = (xs.map (Value.int .i64))[i]? := by
        have hl : (xs.map (Value.int .i64)).length = xs.length := by simp
        rw [hl]
        have h10' := h10
        first
          | rw [h10']
          | (simp only [Nat.mul_one] at h10'; rw [h10'])
      rw [List.getElem?_take, if_pos (by simpa using hlt)] at h11
      rw [Array.getElem?_toList] at h11
      rw [h11]
      simp [hlt]
    · rw [if_neg hlt]
      show cur[i]? = some ((cur[i]?).getD default)
      rw [Array.getElem?_eq_getElem (by omega)]
      rfl
end
theorem ints_take {T : Nat → Prop} {w : World} {p : Option Addr} {n c : Nat} {xs : List Int} (h : intsR T w [.slice p n c] xs) (hn : xs.length = n) {k : Nat} (hk : k ≤ n) : intsR T w [.slice p k c] (xs.take k) := by
  obtain ⟨p', c', hv, h1, h2, h3⟩ := h
  obtain ⟨h0, -⟩ := List.cons.inj hv
  injection h0 with a1 a2 a3
  subst a1; subst a3
  refine ⟨p, c, by rw [List.length_take, Nat.min_eq_left (by omega)], by rw [List.length_take]; omega, h2, fun i hi => ?_⟩
  have hi' : i < k ∧ i < xs.length := by rw [List.length_take] at hi; omega
  obtain ⟨b, off, ecs, e1, e2, e3, e4, e5⟩ := h3 i hi'.2
  exact ⟨b, off, ecs, e1, e2, e3, e4, by rw [List.getElem_take]; exact e5⟩
theorem ints_drop {T : Nat → Prop} {w : World} {b off : Nat} {n c : Nat} {xs : List Int} (h : intsR T w [.slice (some ⟨b, off, none⟩) n c] xs) (hn : xs.length = n) {k : Nat} (hk : k ≤ n) (c' : Nat) (hc : n - k ≤ c') (hc' : c' ≤ maxLen) : intsR T w [.slice (some ⟨b, off + k, none⟩) (n - k) c'] (xs.drop k) := by
  obtain ⟨p', c0, hv, h1, h2, h3⟩ := h
  obtain ⟨h0, -⟩ := List.cons.inj hv
  injection h0 with a1 a2 a3
  subst a1; subst a3
  refine ⟨_, c', by rw [List.length_drop, hn], by rw [List.length_drop]; omega, hc', fun i hi => ?_⟩
  have hi' : i < xs.length - k := by rw [List.length_drop] at hi; exact hi
  obtain ⟨b', off', ecs, e1, e2, e3, e4, e5⟩ := h3 (k + i) (by omega)
  obtain ⟨rfl, rfl⟩ : b = b' ∧ off = off' := by simpa using e1
  refine ⟨b, off + k, ecs, rfl, e2, e3, fun m hm => ?_, by rw [List.getElem_drop]; exact e5⟩
  have := e4 m hm
  rw [show off + k + i * 1 + m = off + (k + i) * 1 + m from by omega]
  exact this
theorem ints_nil {T : Nat → Prop} {w : World} (p : Option Addr) (c : Nat) (hc : c ≤ maxLen) : intsR T w [.slice p 0 c] [] := ⟨p, c, rfl, Nat.zero_le _, hc, fun i hi => absurd hi (Nat.not_lt_zero _)⟩
theorem ints_mem {T : Nat → Prop} {w : World} {v : Value} {xs : List Int} (h : intsR T w [v] xs) : ∀ x, x ∈ xs → I64 x := by
  intro x hx
  obtain ⟨i, hi, rfl⟩ := List.getElem_of_mem hx
  obtain ⟨p', c0, hv, h1, h2, h3⟩ := h
  obtain ⟨b', off', ecs, e1, e2, e3, e4, e5⟩ := h3 i hi
  exact e5.2
set_option maxRecDepth 100000 in
set_option maxHeartbeats 1000000 in
theorem iSetOf_any (ad : Addr) (k : Nat) (xs : List Int) (T : Nat → Prop) (w : World) (hx : intsR T w [.slice (some ad) xs.length k] xs) (hT : ∀ b, T b → b < w.heap.size) (h12 : xs.length ≤ 12) :
    Calls Try.prog 44 #[.slice (some ad) xs.length k] w (SetR (fun _ => False) w (setL xs)) := by
  have HX := Lib.hid hx
  have HT := Lib.hid hT
  clear hx hT
  go_enter Try.func44, Try.ntmps44
  go_wp2_with fail
  refine (cloneInts_any _ _ _ xs T _ rfl HX.out HT.out (fun h => by cases h) (by omega)).mono ?_
  rintro e w1 ⟨q, c, rfl, hO, g1, hq, -⟩
  obtain ⟨g, R, rfl, hg, hlc, hcm, hrow⟩ := ownI_row hO (fun h => by have := hq.1 h; cases this)
  have HROW := Lib.hid hrow
  have HI := Lib.hid (ints_mem HX.out)
  have HG := Lib.hid g1
  have HCM := Lib.hid hcm
  unfold maxLen at hcm
  clear hO hrow hq g1
  go_wp2_with fail
  refine (sort_any g c xs.length _ R _ HROW.out hlc (by omega) h12).mono ?_
  rintro e w2 ⟨rfl, Y, hs, hm, hr2, hmu⟩
  have HS := Lib.hid hs
  have HM := Lib.hid (hm xs (memF_list xs))
  have HR2 := Lib.hid hr2
  have HB2 := Lib.hid (Mut.bel HG.out hmu (fun k hk => by rw [hk]; exact hg))
  clear hs hm hr2 hmu
  go_wp2_with fail
  refine (compact_any g c xs.length Y R _ HR2.out hlc (by omega)).mono ?_
  rintro e w3 ⟨rfl, ⟨F, hF, hFa⟩, hmu⟩
  have HB3 := Lib.hid (Mut.bel HB2.out hmu (fun k hk => by rw [hk]; exact hg))
  have HE := Lib.hid (cmpF_set HS.out HM.out)
  have HLE := Lib.hid (Nat.le_trans (cmpF_le Y xs.length) hlc)
  have HRES := Lib.hid (show intsR (New w w3) w3 [.slice (some ⟨g, 0, none⟩) (cmpF Y xs.length).length c] (setL xs) from by
    rw [← HE.out]
    exact rowIs_sub hF HLE.out rfl hFa (fun x hx => HI.out x (by rw [HE.out, setL_mem] at hx; exact hx)) ⟨hg, hF.lt⟩ ⟨HLE.out, HCM.out⟩)
  clear hF hFa hmu
  rw [HE.out] at *
  go_wp2
  go_ret
  exact ⟨g, 0, c, rfl, intsR_good.mono HRES.out (fun b hb => .inr hb), HB3.out⟩

set_option maxRecDepth 100000 in
set_option maxHeartbeats 1000000 in
theorem sPut_any (b off n k : Nat) (x : Int) (xs : List Int) (T : Nat → Prop) (w : World) (hn : xs.length = n) (hx : intsR T w [.slice (some ⟨b, off, none⟩) n k] xs) (hT : ∀ b, T b → b < w.heap.size) (hI : I64 x) (hl : n ≤ 1000) :
    Calls Try.prog 172 #[.slice (some ⟨b, off, none⟩) n k, .int .i64 x] w (SetR T w (putL xs x)) := by
  have hkk : n ≤ k ∧ k ≤ maxLen := by
    obtain ⟨p', c', hv, hk, hkm, -⟩ := hx
    obtain ⟨h0, -⟩ := List.cons.inj hv
    injection h0 with a1 a2 a3
    subst a3
    exact ⟨by omega, hkm⟩
  obtain ⟨hk, hkm⟩ := hkk
  have HKM := Lib.hid hkm
  unfold maxLen at hkm
  have HX := Lib.hid hx
  have HT := Lib.hid hT
  have HI := Lib.hid hI
  have HN := Lib.hid hn
  have HAT := Lib.hid (fun i (hi : i < n) => show w.cell? ⟨b, off + i, none⟩ = some (.int .i64 (xs.getD i 0)) from by
    obtain ⟨b', off', h1, h2⟩ := intsR_at' HX.out (i := i) (by rw [HN.out]; exact hi)
    obtain ⟨rfl, rfl⟩ : b = b' ∧ off = off' := by simpa [sliceAddr] using h1
    exact h2)
  clear hx hT hI hn
  go_enter Try.func172, Try.ntmps172
  go_wp2_with fail
  refine (sSetHas_any _ xs x T _ HX.out).mono ?_
  rintro e w' ⟨rfl, rfl⟩
  cases hb : hasB x xs
  rotate_left
  · have HP := Lib.hid (show putL xs x = xs from if_pos hb)
    clear hb
    go_wp2
    go_ret
    exact ⟨b, off, k, by rw [HP.out, HN.out]; rfl, by rw [HP.out, HN.out]; exact intsR_good.mono HX.out (fun _ h => .inl h), Bel.refl _⟩
  · have HP := Lib.hid (show putL xs x = xs.take (cntL x xs) ++ x :: xs.drop (cntL x xs) from if_neg (by rw [hb]; decide))
    have HCL := Lib.hid (show cntL x xs ≤ n from by rw [← HN.out]; exact cntL_le x xs)
    have HLT := Lib.hid (cntL_lt x xs)
    have HGE := Lib.hid (show cntL x xs < n → ¬ xs.getD (cntL x xs) 0 < x from by rw [← HN.out]; exact cntL_at x xs)
    clear hb
    generalize cntL x xs = K at *
    have hKn := HCL.out
    go_wp2_with fail
    go_loopw [5] (fun jv wr => ∃ j : Nat, j ≤ K ∧ jv = .int .i64 j ∧ w = wr) (fun jv _ => n + 1 - (intOf jv).toNat)
    case atStart => exact ⟨0, Nat.zero_le _, rfl, rfl⟩
    case round =>
      obtain ⟨j, hjK, rfl, rfl⟩ := hrel
      by_cases hlt : j < K
      · have hji : (j : Int) < (n : Int) := by omega
        have c1 := HAT.out j (by omega)
        have hd := HLT.out j hlt
        generalize xs.getD j 0 = D at *
        go_wp2_with fail
        go_roundw
        case rel => exact ⟨j + 1, by omega, by go_num, by first | rfl | trivial⟩
        case measure => simp [intOf]; omega
      · obtain rfl : j = K := by omega
        have HH : Hid ((j < n ∧ ∃ D, w.cell? ⟨b, off + j, none⟩ = some (.int .i64 D) ∧ ¬ D < x) ∨ ¬ (j < n)) := Lib.hid (by
          by_cases e : j < n
          · exact .inl ⟨e, _, HAT.out j e, by have := HGE.out e; omega⟩
          · exact .inr e)
        have HTK := Lib.hid (ints_take HX.out HN.out hKn)
        have HAX : ∃ A : Addr, (if k = j then (some ⟨b, off, none⟩ : Option Addr) else some ⟨b, off + j, none⟩) = some A ∧ Hid (intsR T w [.slice (some A) (n - j) (k - j)] (xs.drop j)) := by
          by_cases e : k = j
          · refine ⟨⟨b, off, none⟩, by rw [if_pos e], Lib.hid ?_⟩
            have h1 : xs.drop j = [] := List.drop_eq_nil_of_le (by rw [HN.out]; omega)
            rw [h1, show n - j = 0 from by omega]
            exact ints_nil _ _ (by unfold maxLen; omega)
          · exact ⟨⟨b, off + j, none⟩, by rw [if_neg e], Lib.hid (ints_drop HX.out HN.out hKn _ (by omega) (by unfold maxLen; omega))⟩
        obtain ⟨A, hA, HDR⟩ := HAX
        have HTL := Lib.hid (show (xs.take j).length = j from by rw [List.length_take, HN.out]; omega)
        have HDL := Lib.hid (show (xs.drop j).length = n - j from by rw [List.length_drop, HN.out])
        have hji2 : (j : Int) ≤ (n : Int) := by omega
        have hjk2 : (j : Int) ≤ (k : Int) := by omega
        have HPL := Lib.hid (show (putL xs x).length = 0 + j + 1 + (n - j) from by rw [HP.out, List.length_append, List.length_cons, HTL.out, HDL.out]; omega)
        have HPE := Lib.hid (show putL xs x = ([] ++ xs.take j) ++ [x] ++ xs.drop j from by rw [HP.out]; simp)
        have HO0 := Lib.hid (fun (g : Nat) (W : World) (h : W.heap[g]? = some (.cells #[] 3 (0, 0))) (hg : w.heap.size ≤ g) => show OwnI 3 w.heap.size W (some ⟨g, 0, none⟩) 0 [] from OwnI.empty h hg)
        have hXl : (xs.take j).length ≤ 1000 := by rw [HTL.out]; omega
        have hDl : (xs.drop j).length ≤ 1000 := by rw [HDL.out]; omega
        clear HP
        generalize xs.take j = XT at *
        generalize xs.drop j = XD at *
        have HEND : Hid (∀ D : Int, ((j < n ∧ w.cell? ⟨b, off + j, none⟩ = some (.int .i64 D) ∧ ¬ D < x) ∨ ¬ (j < n)) → True) := Lib.hid (fun _ _ => trivial)
        clear HEND
        rcases HH.out with ⟨hjn, D, c1, hd⟩ | hjn
        · have hji : (j : Int) < (n : Int) := by omega
          obtain rfl : A = ⟨b, off + j, none⟩ := by
            rw [if_neg (by omega)] at hA
            simpa using hA.symm
          go_wp2_with (first | (at_builtin; refine wpList_apps (B := w.heap.size) _ rfl _ _ 25 rfl (.int .i64 0) 8 Try.underlying25 (by kernel_rfl) rfl (by decide) q2 _ c2' ([] ++ XT ++ [x]) rfl (hO2.bel (by (repeat (first | assumption | exact Bel.refl _ | apply Bel.drewN | apply Bel.drew | apply Bel.alloc | refine Bel.trans ?_ (by assumption))))) (by first | (simp [HTL.out]; done) | (simp [HTL.out]; omega)) _ _ _ XD T rfl (by rw [HDL.out]; exact intsR_good.bel HDR.out (by (repeat (first | assumption | exact Bel.refl _ | apply Bel.drewN | apply Bel.drew | apply Bel.alloc | refine Bel.trans ?_ (by assumption)))) HT.out) HDL.out (fun h => by cases h) (by omega) (by first | omega | (simp; done) | (simp; omega)) ?_; intro q3 c3' w3 hO3 hG3 hN3; have hB3 : Bel w w3 := hG3.bel w (by (repeat (first | assumption | exact Bel.refl _ | apply Bel.drewN | apply Bel.drew | apply Bel.alloc | refine Bel.trans ?_ (by assumption)))) (Nat.le_refl _); clear hG3 hN3) | (at_builtin; refine wpList_apps (B := w.heap.size) _ rfl _ _ 25 rfl (.int .i64 0) 8 Try.underlying25 (by kernel_rfl) rfl (by decide) q1 _ c1' ([] ++ XT) rfl (hO1.bel (by (repeat (first | assumption | exact Bel.refl _ | apply Bel.drewN | apply Bel.drew | apply Bel.alloc | refine Bel.trans ?_ (by assumption))))) (by first | (simp [HTL.out]; done) | (simp [HTL.out]; omega)) _ _ _ [x] (fun g => g = w1.heap.size) rfl (intsR_cell (alloc_at rfl) HI.out) rfl (fun h => by cases h) (by omega) (by first | omega | (simp; done) | (simp; omega)) ?_; intro q2 c2' w2 hO2 hG2 hN2; have hB2 : Bel w w2 := hG2.bel w (by (repeat (first | assumption | exact Bel.refl _ | apply Bel.drewN | apply Bel.drew | apply Bel.alloc | refine Bel.trans ?_ (by assumption)))) (Nat.le_refl _); have hs2 := hB2.size; clear hG2 hN2) | (at_builtin; refine wpList_apps (B := w.heap.size) _ rfl _ _ 25 rfl (.int .i64 0) 8 Try.underlying25 (by kernel_rfl) rfl (by decide) (some ⟨w.heap.size, 0, none⟩) _ 0 [] rfl (HO0.out _ _ (alloc_at rfl) (Nat.le_refl _)) rfl _ _ _ XT T rfl (by rw [HTL.out]; exact intsR_good.bel HTK.out (by (repeat (first | assumption | exact Bel.refl _ | apply Bel.drewN | apply Bel.drew | apply Bel.alloc | refine Bel.trans ?_ (by assumption)))) HT.out) HTL.out (fun h => by cases h) (by omega) (by first | omega | (simp; done) | (simp; omega)) ?_; intro q1 c1' w1 hO1 hG1 hN1; have hB1 : Bel w w1 := hG1.bel w (by (repeat (first | assumption | exact Bel.refl _ | apply Bel.drewN | apply Bel.drew | apply Bel.alloc | refine Bel.trans ?_ (by assumption)))) (Nat.le_refl _); have hs1 := hB1.size; clear hG1 hN1))
          rw [← HPE.out] at hO3
          obtain ⟨g, R, rfl, hgB, hlc, hcm, -⟩ := ownI_row hO3 (OwnI.some hO3 (by rw [HPE.out]; simp))
          have HRES := Lib.hid (show intsR (fun b => T b ∨ New w w3 b) w3 [.slice (some ⟨g, 0, none⟩) (putL xs x).length c3'] (putL xs x) from hO3.done (fun b h1 h2 => .inr ⟨h1, h2⟩))
          clear hO3
          go_ret
          exact ⟨g, 0, c3', by rw [HPL.out]; first | rfl | (simp; done), HRES.out, hB3⟩
        · have hji : ¬ (j : Int) < (n : Int) := by omega
          go_wp2_with (first | (at_builtin; refine wpList_apps (B := w.heap.size) _ rfl _ _ 25 rfl (.int .i64 0) 8 Try.underlying25 (by kernel_rfl) rfl (by decide) q2 _ c2' ([] ++ XT ++ [x]) rfl (hO2.bel (by (repeat (first | assumption | exact Bel.refl _ | apply Bel.drewN | apply Bel.drew | apply Bel.alloc | refine Bel.trans ?_ (by assumption))))) (by first | (simp [HTL.out]; done) | (simp [HTL.out]; omega)) _ _ _ XD T rfl (by rw [HDL.out]; exact intsR_good.bel HDR.out (by (repeat (first | assumption | exact Bel.refl _ | apply Bel.drewN | apply Bel.drew | apply Bel.alloc | refine Bel.trans ?_ (by assumption)))) HT.out) HDL.out (fun h => by cases h) (by omega) (by first | omega | (simp; done) | (simp; omega)) ?_; intro q3 c3' w3 hO3 hG3 hN3; have hB3 : Bel w w3 := hG3.bel w (by (repeat (first | assumption | exact Bel.refl _ | apply Bel.drewN | apply Bel.drew | apply Bel.alloc | refine Bel.trans ?_ (by assumption)))) (Nat.le_refl _); clear hG3 hN3) | (at_builtin; refine wpList_apps (B := w.heap.size) _ rfl _ _ 25 rfl (.int .i64 0) 8 Try.underlying25 (by kernel_rfl) rfl (by decide) q1 _ c1' ([] ++ XT) rfl (hO1.bel (by (repeat (first | assumption | exact Bel.refl _ | apply Bel.drewN | apply Bel.drew | apply Bel.alloc | refine Bel.trans ?_ (by assumption))))) (by first | (simp [HTL.out]; done) | (simp [HTL.out]; omega)) _ _ _ [x] (fun g => g = w1.heap.size) rfl (intsR_cell (alloc_at rfl) HI.out) rfl (fun h => by cases h) (by omega) (by first | omega | (simp; done) | (simp; omega)) ?_; intro q2 c2' w2 hO2 hG2 hN2; have hB2 : Bel w w2 := hG2.bel w (by (repeat (first | assumption | exact Bel.refl _ | apply Bel.drewN | apply Bel.drew | apply Bel.alloc | refine Bel.trans ?_ (by assumption)))) (Nat.le_refl _); have hs2 := hB2.size; clear hG2 hN2) | (at_builtin; refine wpList_apps (B := w.heap.size) _ rfl _ _ 25 rfl (.int .i64 0) 8 Try.underlying25 (by kernel_rfl) rfl (by decide) (some ⟨w.heap.size, 0, none⟩) _ 0 [] rfl (HO0.out _ _ (alloc_at rfl) (Nat.le_refl _)) rfl _ _ _ XT T rfl (by rw [HTL.out]; exact intsR_good.bel HTK.out (by (repeat (first | assumption | exact Bel.refl _ | apply Bel.drewN | apply Bel.drew | apply Bel.alloc | refine Bel.trans ?_ (by assumption)))) HT.out) HTL.out (fun h => by cases h) (by omega) (by first | omega | (simp; done) | (simp; omega)) ?_; intro q1 c1' w1 hO1 hG1 hN1; have hB1 : Bel w w1 := hG1.bel w (by (repeat (first | assumption | exact Bel.refl _ | apply Bel.drewN | apply Bel.drew | apply Bel.alloc | refine Bel.trans ?_ (by assumption)))) (Nat.le_refl _); have hs1 := hB1.size; clear hG1 hN1))
          rw [← HPE.out] at hO3
          obtain ⟨g, R, rfl, hgB, hlc, hcm, -⟩ := ownI_row hO3 (OwnI.some hO3 (by rw [HPE.out]; simp))
          have HRES := Lib.hid (show intsR (fun b => T b ∨ New w w3 b) w3 [.slice (some ⟨g, 0, none⟩) (putL xs x).length c3'] (putL xs x) from hO3.done (fun b h1 h2 => .inr ⟨h1, h2⟩))
          clear hO3
          go_ret
          exact ⟨g, 0, c3', by rw [HPL.out]; first | rfl | (simp; done), HRES.out, hB3⟩

end Go.Proofs.Ytiaamddhocdhaaa
