/- Variables: how a text is gone through: what the program computes. -/
import Derived.Test.YtcggpedebcamdaaDoorVarB
set_option linter.unusedVariables false
set_option linter.unusedSimpArgs false
namespace Go.Proofs.YtcggpedebcamdaaDoor
open Go.RowKit Go.Shelf Go.Lib

/-! ### Plain -/
theorem cut36_nil : cut [] [36] = ([], [], false) := rfl
theorem cut36_cons (c : UInt8) (l : List UInt8) : cut (c :: l) [36] = if c = 36 then ([], l, true) else (c :: (cut l [36]).1, (cut l [36]).2.1, (cut l [36]).2.2) := by
  by_cases h : c = 36
  · subst h
    rw [if_pos rfl]
    unfold cut
    rw [index_pre (by simp) (by simp [List.isPrefixOf])]
    simp
  · rw [if_neg h]
    have hi := index_cons (b := c) (l := l) (sep := [36]) (by simp [List.isPrefixOf, Ne.symm h])
    unfold cut
    by_cases hm : index l [36] = -1
    · rw [hi, hm]
      simp
    · have hge := index_ge l [36]
      obtain ⟨j, hj⟩ : ∃ j : Nat, index l [36] = j := ⟨(index l [36]).toNat, by omega⟩
      have hix : index (c :: l) [36] = ((j + 1 : Nat) : Int) := by rw [hi, if_neg (fun e => hm (beq_iff_eq.1 e)), hj]; omega
      rw [hix, hj]
      have e1 : ¬ (((j + 1 : Nat) : Int) < 0) := by omega
      have e2 : ¬ ((j : Nat) : Int) < 0 := by omega
      simp [e1, e2]
      omega
theorem cut36 : ∀ t : List UInt8, (∃ a r, t = a ++ 36 :: r ∧ (36 : UInt8) ∉ a ∧ cut t [36] = (a, r, true)) ∨ ((36 : UInt8) ∉ t ∧ cut t [36] = (t, [], false))
  | [] => .inr ⟨by simp, rfl⟩
  | c :: t => by
    rw [cut36_cons]
    by_cases h : c = 36
    · rw [if_pos h]
      exact .inl ⟨[], t, by simp [h], by simp, rfl⟩
    · rw [if_neg h]
      rcases cut36 t with ⟨a, r, h1, h2, h3⟩ | ⟨h1, h2⟩
      · rw [h3]
        refine .inl ⟨c :: a, r, by simp [h1], ?_, rfl⟩
        simp only [List.mem_cons, not_or]
        exact ⟨fun e => h e.symm, h2⟩
      · rw [h2]
        refine .inr ⟨?_, rfl⟩
        simp only [List.mem_cons, not_or]
        exact ⟨fun e => h e.symm, h1⟩
theorem of256 {P : UInt8 → Prop} (h : ∀ k : Fin 256, P (UInt8.ofNat k.val)) (c : UInt8) : P c := by
  have := h ⟨c.toNat, UInt8.toNat_lt c⟩
  simpa using this
def smallS : List UInt8 := [97, 98, 99, 100, 101, 102, 103, 104, 105, 106, 107, 108, 109, 110, 111, 112, 113, 114, 115, 116, 117, 118, 119, 120, 121, 122]
def moreS : List UInt8 := [97, 98, 99, 100, 101, 102, 103, 104, 105, 106, 107, 108, 109, 110, 111, 112, 113, 114, 115, 116, 117, 118, 119, 120, 121, 122, 48, 49, 50, 51, 52, 53, 54, 55, 56, 57, 95]
theorem small_index (c : UInt8) : decide (0 ≤ indexByte smallS c) = lowC c := by
  refine of256 (P := fun c => decide (0 ≤ indexByte smallS c) = lowC c) ?_ c
  decide +kernel
theorem more_mem (c : UInt8) : moreS.contains c = moreC c := by
  refine of256 (P := fun c => moreS.contains c = moreC c) ?_ c
  decide +kernel
theorem trim_more (l : List UInt8) : trimLeftS l moreS = l.dropWhile moreC := by
  unfold trimLeftS
  rw [show (fun c => moreS.contains c) = moreC from funext more_mem]
/-- What stands behind a sign. -/
def vcutL : List UInt8 → List UInt8 × List UInt8 × Bool
  | [] => ([], [], false)
  | c :: r => if c = 36 then ([36], r, true) else if lowC c = true then ((c :: r).takeWhile moreC, (c :: r).dropWhile moreC, true) else ([], [], false)

/-! ### cut -/
theorem cut36_calls (w : World) (l : List UInt8) (hl : l.length ≤ 1099511627) (hm : MaxI w) :
    Calls Tryd.prog 33 #[.string (strB l), .string ⟨#[36]⟩] w fun en w' => en = .returned (.tuple #[.string (strB (cut l [36]).1), .string (strB (cut l [36]).2.1), .bool (cut l [36]).2.2]) ∧ Kept w w' NoB := by
  obtain ⟨m, hm⟩ := hm
  refine (Any.strings_Cut shLays145 (strB l) ⟨#[36]⟩ m w (by rw [strB_size]; omega) hm).mono fun en w' h => ⟨?_, ?_⟩
  · rw [h.1, strB_toList]
    rfl
  · obtain ⟨n, rfl⟩ := h.2
    exact (Kept.refl _ _).drewN n
theorem pre36_calls (w : World) (l : List UInt8) (b : Bool) (hb : Lib.hasPrefix l [36] = b) :
    Calls Tryd.prog 39 #[.string (strB l), .string ⟨#[36]⟩] w fun en w' => en = .returned (.bool b) ∧ w' = w := by
  have h := Any.strings_HasPrefix shLays99 (strB l) ⟨#[36]⟩ w
  rw [strB_toList] at h
  rw [← hb]
  exact h
theorem small_calls (w : World) (c : UInt8) (b : Bool) (hb : lowC c = b) :
    Calls Tryd.prog 40 #[.string (strB smallS), .string (strB [c])] w fun en w' => en = .returned (.bool b) ∧ w' = w := by
  have h := Any.strings_Contains_one shLays144 (strB smallS) c w
  rw [strB_toList, small_index, hb] at h
  exact h
theorem trimM_calls (w : World) (l : List UInt8) :
    Calls Tryd.prog 41 #[.string (strB l), .string (strB moreS)] w fun en w' => en = .returned (.string (strB (l.dropWhile moreC))) ∧ Kept w w' NoB := by
  refine (Any.strings_TrimLeft_laid shLays161 (by kernel_rfl) (strB l) (strB moreS) w (by decide) (by rw [strB_toList]; exact ascii_of_all (by decide))).mono fun en w' h => ⟨?_, Kept.of_below h.2⟩
  rw [h.1, strB_toList, strB_toList, trim_more]
  rfl
theorem vcut_def (T : List UInt8) : (∃ r, T = 36 :: r ∧ vcutL T = ([36], r, true) ∧ Lib.hasPrefix T [36] = true) ∨ (T = [] ∧ vcutL T = ([], [], false) ∧ Lib.hasPrefix T [36] = false) ∨
    (∃ c, T.take 1 = [c] ∧ T ≠ [] ∧ lowC c = false ∧ vcutL T = ([], [], false) ∧ Lib.hasPrefix T [36] = false) ∨
    (∃ c, T.take 1 = [c] ∧ T ≠ [] ∧ lowC c = true ∧ vcutL T = (T.takeWhile moreC, T.dropWhile moreC, true) ∧ Lib.hasPrefix T [36] = false) := by
  cases T with
  | nil => exact .inr (.inl ⟨rfl, rfl, rfl⟩)
  | cons c r =>
    by_cases h : c = 36
    · subst h
      exact .inl ⟨r, rfl, by simp [vcutL], by simp [Lib.hasPrefix]⟩
    · have hp : Lib.hasPrefix (c :: r) [36] = false := by
        cases hh : Lib.hasPrefix (c :: r) [36] with
        | false => rfl
        | true =>
          simp [Lib.hasPrefix] at hh
          exact absurd hh.symm h
      cases hl : lowC c with
      | false => exact .inr (.inr (.inl ⟨c, rfl, by simp, hl, by simp [vcutL, h, hl], hp⟩))
      | true => exact .inr (.inr (.inr ⟨c, rfl, by simp, hl, by simp [vcutL, h, hl], hp⟩))
set_option maxHeartbeats 1000000 in
set_option maxRecDepth 100000 in
theorem vcut_calls (w : World) (T : List UInt8) (hl : T.length ≤ 1099511627) (v : List UInt8 × List UInt8 × Bool) (hv : vcutL T = v) :
    Calls Tryd.prog 34 #[.string (strB T)] w fun en w' => en = .returned (.tuple #[.string (strB v.1), .string (strB v.2.1), .bool v.2.2]) ∧ Kept w w' NoB := by
  subst hv
  rcases vcut_def T with ⟨r, rfl, hv, hp⟩ | ⟨rfl, hv, hp⟩ | ⟨c, hc, hne, hlow, hv, hp⟩ | ⟨c, hc, hne, hlow, hv, hp⟩
  · rw [hv]
    have e1 := strB_cut (36 :: r) 1 (r.length + 1)
    have e2 : ((36 :: r).drop 1).take (r.length + 1 - 1) = r := by simp
    rw [e2] at e1
    have hz : (strB (36 :: r)).size = r.length + 1 := by rw [strB_size]; simp
    have HP := Lib.hid hp
    clear hp hv e2
    simp only at ⊢
    go_enter Tryd.func34, Tryd.ntmps34
    go_wp2_with fail
    refine (pre36_calls _ _ _ HP.out).mono ?_
    rintro en w1 ⟨rfl, rfl⟩
    go_wp2_with fail
    go_region
    go_wp2_with fail
    go_ret3
    exact ⟨rfl, (Kept.refl _ _).drew⟩
  · rw [hv]
    have HP := Lib.hid hp
    clear hp hv
    go_enter Tryd.func34, Tryd.ntmps34
    go_wp2_with fail
    refine (pre36_calls _ _ _ HP.out).mono ?_
    rintro en w1 ⟨rfl, rfl⟩
    go_wp2_with fail
    go_ret3
    exact ⟨rfl, Kept.refl _ _⟩
  all_goals
    rw [hv]
    have e1 := strB_cut T 0 1
    rw [List.drop_zero, Nat.sub_zero, hc] at e1
    have hpos : 0 < T.length := List.length_pos_iff.2 hne
    have hb1 : (T == []) = false := beq_eq_false_iff_ne.2 hne
    have HP := Lib.hid hp
    have HL := Lib.hid hlow
    have h1 : ¬ (T.length : Int) < 1 := by omega
    have h1' : 1 ≤ T.length := by omega
    have hemp : (strB T == ByteArray.empty) = false := by
      cases hh : (strB T == ByteArray.empty) with
      | false => rfl
      | true => exact absurd (strB_inj ((Go.MapKept.bytes_beq _ _).1 hh) : T = []) hne
    clear hp hlow hv hc hne
    go_enter Tryd.func34, Tryd.ntmps34
    go_wp2_with fail
    refine (pre36_calls _ _ _ HP.out).mono ?_
    rintro en w1 ⟨rfl, rfl⟩
    go_wp2_with fail
    refine (small_calls _ _ _ HL.out).mono ?_
    rintro en w1 ⟨rfl, rfl⟩
  · go_wp2_with fail
    go_ret3
    exact ⟨rfl, Kept.refl _ _⟩
  · go_wp2_with fail
    refine (trimM_calls _ _).mono ?_
    rintro en w2 ⟨rfl, hk⟩
    have HK := Lib.hid hk
    have hlen : T.length = (T.takeWhile moreC).length + (T.dropWhile moreC).length := by rw [← List.length_append, List.takeWhile_append_dropWhile]
    have e2 := strB_cut T 0 (T.takeWhile moreC).length
    rw [List.drop_zero, Nat.sub_zero] at e2
    have e3 : T.take (T.takeWhile moreC).length = T.takeWhile moreC := by
      conv => lhs; rw [← List.takeWhile_append_dropWhile (p := moreC) (l := T)]
      rw [List.take_left']
      simp [List.takeWhile_append_dropWhile]
    rw [e3] at e2
    obtain ⟨N, hN⟩ : ∃ N, T.takeWhile moreC = N := ⟨_, rfl⟩
    obtain ⟨R, hR⟩ : ∃ R, T.dropWhile moreC = R := ⟨_, rfl⟩
    rw [hN] at hlen e2
    rw [hR] at hlen
    rw [hR]
    have HN := Lib.hid hN
    have HR := Lib.hid hR
    have hsub : (T.length : Int) - (R.length : Int) = (N.length : Int) := by omega
    have hle : N.length ≤ T.length := by omega
    clear hk e3 hN hR hlen
    go_wp2_with fail
    go_ret3
    exact ⟨by rw [HN.out, HR.out]; rfl, HK.out⟩
end Go.Proofs.YtcggpedebcamdaaDoor
