/- Variables: each: what the program computes, whatever its two functions do. (Printed by gen_vare.py.) -/
import Derived.Test.YtcggpedebcamdaaDoorVarW
set_option linter.unusedVariables false
set_option linter.unusedSimpArgs false
namespace Go.Proofs.YtcggpedebcamdaaDoor
open Go.RowKit Go.Shelf Go.Lib

theorem cut36_at (w : World) (l : List UInt8) (v : List UInt8 × List UInt8 × Bool) (hl : l.length ≤ 1099511627) (hm : MaxI w) (hv : cut l [36] = v) :
    Calls Tryd.prog 33 #[.string (strB l), .string ⟨#[36]⟩] w fun en w' => en = .returned (.tuple #[.string (strB v.1), .string (strB v.2.1), .bool v.2.2]) ∧ Kept w w' NoB := by
  subst hv
  exact cut36_calls w l hl hm
def EachS (t0 : List UInt8) (ok : List UInt8 → Bool) (I : List Part → World → Prop) (gk : Nat) (v0 : Value) (wr : World) : Prop :=
  ∃ (t : List UInt8) (d : List Part), v0 = .string (strB t) ∧ gk = t.length ∧ I d wr ∧ wtP d + t.length ≤ t0.length ∧ partsL t0 = (partsL t).map (d ++ ·) ∧ ∀ s, (s, true) ∈ d → ok s = true
theorem map_map_app (o : Option (List Part)) (a b : List Part) : (o.map (b ++ ·)).map (a ++ ·) = o.map ((a ++ b) ++ ·) := by
  cases o <;> simp
theorem mem_plainP {s : List UInt8} {a : List UInt8} : (s, true) ∉ plainP a := by
  intro h
  obtain ⟨c, _, e⟩ := List.mem_map.1 h
  cases e
theorem plainP_36 : plainP [36] = [([36], false)] := rfl
theorem ok_app {ok : List UInt8 → Bool} {d a : List Part} (h : ∀ s, (s, true) ∈ d → ok s = true) (ha : ∀ s, (s, true) ∈ a → ok s = true) : ∀ s, (s, true) ∈ d ++ a → ok s = true := fun s hs => (List.mem_append.1 hs).elim (h s) (ha s)
theorem take_ne36 {r : List UInt8} (N : List UInt8) (hN : r.takeWhile moreC = N) : N ≠ [36] := by
  rintro rfl
  have h : (r.takeWhile moreC).all moreC = true := List.all_takeWhile
  rw [hN] at h
  simp [more_no36] at h
def EachPost (t0 : List UInt8) (ok : List UInt8 → Bool) (I : List Part → World → Prop) (en : Ending) (w' : World) : Prop :=
  ∃ b d, en = .returned (.bool b) ∧ I d w' ∧ ((b = true ∧ partsL t0 = some d ∧ ∀ s, (s, true) ∈ d → ok s = true) ∨ (b = false ∧ (partsL t0 = none ∨ ∃ l s, partsL t0 = some l ∧ (s, true) ∈ l ∧ ok s = false)))

set_option maxHeartbeats 4000000 in
set_option maxRecDepth 100000 in
theorem each_names (w : World) (t0 : List UInt8) (g : Nat) (ok : List UInt8 → Bool) (I : List Part → World → Prop) (hl : t0.length ≤ 1099511627) (h0 : I [] w)
    (hmax : ∀ d w, I d w → MaxI w) (hkeep : ∀ d w w', I d w → Kept w w' NoB → I d w')
    (hplain : ∀ d a w, I d w → wtP d + a.length ≤ t0.length → Calls Tryd.prog 28 #[.string (strB a)] w fun en w' => en = .returned (.tuple #[]) ∧ I (d ++ plainP a) w')
    (hname : ∀ d s w, I d w → wtP d + s.length + 1 ≤ t0.length → Calls Tryd.prog 29 #[.string (strB s), .pointer (some ⟨g, 0, none⟩)] w fun en w' => en = .returned (.bool (ok s)) ∧ I (d ++ [(s, true)]) w') :
    Calls Tryd.prog 23 #[.string (strB t0), .func (.func 28) #[] #[], .func (.func 29) #[] #[.pointer (some ⟨g, 0, none⟩)]] w (EachPost t0 ok I) := by
  have H0 := Lib.hid h0
  have HMAX := Lib.hid hmax
  have HKEEP := Lib.hid hkeep
  have HPLAIN := Lib.hid hplain
  have HNM := Lib.hid hname
  clear h0 hmax hkeep hplain hname
  go_enter Tryd.func23, Tryd.ntmps23
  go_wp2_with fail
  go_loopg [0] t0.length (fun gk v0 wr => EachS t0 ok I gk v0 wr)
  case atStart => exact ⟨t0, [], rfl, rfl, H0.out, by simp [wtP], by simp, fun s hs => by simp at hs⟩
  case round =>
    obtain ⟨t, d, rfl, hgk, hI, hw, hp, hok⟩ := hrel
    have HG := Lib.hid hgk
    have HI := Lib.hid hI
    have HP := Lib.hid hp
    have HOK := Lib.hid hok
    clear hgk hI hp hok
    have htl : t.length ≤ 1099511627 := by omega
    rcases cut36 t with ⟨a, r, ht, ha, hc⟩ | ⟨ha, hc⟩
    · have HT := Lib.hid ht
      have HA := Lib.hid ha
      have HC := Lib.hid hc
      have hlen : t.length = a.length + (r.length + 1) := by rw [ht]; simp
      have hpt : partsL t = (partsM .s r).map (plainP a ++ ·) := by rw [ht, partsL_plain _ _ ha, partsL_dollar]
      have HPT := Lib.hid hpt
      have HLEN := Lib.hid hlen
      clear ht ha hc hlen hpt
      go_wp2_with fail
      refine (cut36_at wr t _ htl (HMAX.out _ _ HI.out) HC.out).mono ?_
      rintro en w1 ⟨rfl, hk1⟩
      have HI1 := Lib.hid (HKEEP.out _ _ _ HI.out hk1)
      clear hk1
      go_wp2_with fail
      refine (HPLAIN.out d a w1 HI1.out (by have := HLEN.out; omega)).mono ?_
      rintro en w2 ⟨rfl, hI2⟩
      have HI2 := Lib.hid hI2
      clear hI2
      go_wp2_with fail
      rcases vcut_def r with ⟨r', hr, hv, _⟩ | ⟨hr, hv, _⟩ | ⟨c, hc, hne, hlow, hv, _⟩ | ⟨c, hc, hne, hlow, hv, _⟩
      · have HR := Lib.hid hr
        have HV := Lib.hid hv
        clear hr hv
        refine (vcut_calls w2 r (by have := HLEN.out; omega) _ HV.out).mono ?_
        rintro en w3 ⟨rfl, hk3⟩
        have HI3 := Lib.hid (HKEEP.out _ _ _ HI2.out hk3)
        have b1 : (strB [36] == (⟨#[36]⟩ : ByteArray)) = true := by rw [show (⟨#[36]⟩ : ByteArray) = strB [36] from rfl]; exact (Go.MapKept.bytes_beq _ _).2 rfl
        have b2 : (([36] : List UInt8) == [36]) = true := rfl
        clear hk3
        go_wp2_with fail
        refine (HPLAIN.out _ [36] w3 HI3.out (by rw [wtP_app, wtP_plain]; have := HLEN.out; have := HR.out; have := congrArg List.length this; simp at this ⊢; omega)).mono ?_
        rintro en w4 ⟨rfl, hI4⟩
        have HI4 := Lib.hid hI4
        have hrl : r.length = r'.length + 1 := by rw [HR.out]; simp
        have hpp : partsL t0 = (partsL r').map ((d ++ plainP a ++ plainP [36]) ++ ·) := by
          have e : partsM .s r = (partsL r').map (plainP [36] ++ ·) := by
            rw [HR.out, partsM_sign]
            simp [plainP, low_no36]
          rw [HP.out, HPT.out, e, map_map_app, map_map_app]
        have HPP := Lib.hid hpp
        have HRL := Lib.hid hrl
        clear hI4 hpp hrl
        go_wp2_with fail
        go_roundg r'.length
        case measure => have := HG.out; have := HLEN.out; have := HRL.out; omega
        case rel => exact ⟨r', _, rfl, rfl, HI4.out, by rw [wtP_app, wtP_app, wtP_plain, wtP_plain]; have := HLEN.out; have := HRL.out; simp; omega, HPP.out, ok_app (ok_app HOK.out fun s hs => absurd hs mem_plainP) fun s hs => absurd hs mem_plainP⟩
      · have hnone : partsL t0 = none := by
          rw [HP.out, HPT.out, hr]
          rfl
        have HN := Lib.hid hnone
        have HV := Lib.hid hv
        clear hr hv hnone
        refine (vcut_calls w2 r (by have := HLEN.out; omega) _ HV.out).mono ?_
        rintro en w3 ⟨rfl, hk3⟩
        have HI3 := Lib.hid (HKEEP.out _ _ _ HI2.out hk3)
        clear hk3
        go_wp2_with fail
        go_ret
        exact ⟨false, _, rfl, HI3.out, .inr ⟨rfl, .inl HN.out⟩⟩
      · have hnone : partsL t0 = none := by
          have e : partsM .s r = none := by
            rw [partsM_sign]
            cases r with
            | nil => exact absurd rfl hne
            | cons x r' =>
              have hx : x = c := by simpa using hc
              subst hx
              simp only
              rw [if_neg (by rw [hlow]; exact Bool.false_ne_true), if_neg]
              rintro rfl
              simp [vcutL] at hv
          rw [HP.out, HPT.out, e]
          rfl
        have HN := Lib.hid hnone
        have HV := Lib.hid hv
        clear hc hne hlow hv hnone
        refine (vcut_calls w2 r (by have := HLEN.out; omega) _ HV.out).mono ?_
        rintro en w3 ⟨rfl, hk3⟩
        have HI3 := Lib.hid (HKEEP.out _ _ _ HI2.out hk3)
        clear hk3
        go_wp2_with fail
        go_ret
        exact ⟨false, _, rfl, HI3.out, .inr ⟨rfl, .inl HN.out⟩⟩
      · have e : partsM .s r = (partsL (r.dropWhile moreC)).map ([(r.takeWhile moreC, true)] ++ ·) := by
          rw [partsM_sign]
          cases r with
          | nil => exact absurd rfl hne
          | cons x r' =>
            have hx : x = c := by simpa using hc
            subst hx
            simp only
            rw [if_pos hlow]
            rfl
        have hrl : r.length = (r.takeWhile moreC).length + (r.dropWhile moreC).length := by rw [← List.length_append, List.takeWhile_append_dropWhile]
        obtain ⟨N, hN⟩ : ∃ N, r.takeWhile moreC = N := ⟨_, rfl⟩
        obtain ⟨R, hR⟩ : ∃ R, r.dropWhile moreC = R := ⟨_, rfl⟩
        have hne36 := take_ne36 N hN
        rw [hN, hR] at e hrl hv
        have hpp : partsL t0 = (partsL R).map ((d ++ plainP a ++ [(N, true)]) ++ ·) := by
          rw [HP.out, HPT.out, e, map_map_app, map_map_app]
        have HPP := Lib.hid hpp
        have HRL := Lib.hid hrl
        have HV := Lib.hid hv
        have b2 : (N == [36]) = false := beq_eq_false_iff_ne.2 hne36
        have b1 : (strB N == (⟨#[36]⟩ : ByteArray)) = false := by
          cases hh : (strB N == (⟨#[36]⟩ : ByteArray)) with
          | false => rfl
          | true => exact absurd (strB_inj ((Go.MapKept.bytes_beq _ _).1 hh) : N = [36]) hne36
        clear hc hne hlow hv e hN hR hne36 hpp hrl
        refine (vcut_calls w2 r (by have := HLEN.out; omega) _ HV.out).mono ?_
        rintro en w3 ⟨rfl, hk3⟩
        have HI3 := Lib.hid (HKEEP.out _ _ _ HI2.out hk3)
        clear hk3
        go_wp2_with fail
        refine (HNM.out _ N w3 HI3.out (by rw [wtP_app, wtP_plain]; have := HLEN.out; have := HRL.out; omega)).mono ?_
        obtain ⟨q, hq⟩ : ∃ q, ok N = q := ⟨_, rfl⟩
        rw [hq]
        have HQ := Lib.hid hq
        rintro en w4 ⟨rfl, hI4⟩
        have HI4 := Lib.hid hI4
        clear hI4 hq
        cases q with
        | true =>
          go_wp2_with fail
          go_roundg R.length
          case measure => have := HG.out; have := HLEN.out; have := HRL.out; omega
          case rel => exact ⟨R, _, rfl, rfl, HI4.out, by rw [wtP_app, wtP_app, wtP_plain, wtP_name]; have := HLEN.out; have := HRL.out; omega, HPP.out, ok_app (ok_app HOK.out fun s hs => absurd hs mem_plainP) fun s hs => by simp at hs; rw [hs]; exact HQ.out⟩
        | false =>
          go_wp2_with fail
          go_ret
          refine ⟨false, _, rfl, HI4.out, .inr ⟨rfl, ?_⟩⟩
          rw [HPP.out]
          cases partsL R with
          | none => exact .inl rfl
          | some l => exact .inr ⟨_, N, rfl, by simp, HQ.out⟩
    · have HC := Lib.hid hc
      have hpp : partsL t0 = some (d ++ plainP t) := by rw [HP.out, partsL_all ha]; rfl
      have HPP := Lib.hid hpp
      clear hc ha hpp
      go_wp2_with fail
      refine (cut36_at wr t _ htl (HMAX.out _ _ HI.out) HC.out).mono ?_
      rintro en w1 ⟨rfl, hk1⟩
      have HI1 := Lib.hid (HKEEP.out _ _ _ HI.out hk1)
      clear hk1
      go_wp2_with fail
      refine (HPLAIN.out d t w1 HI1.out (by omega)).mono ?_
      rintro en w2 ⟨rfl, hI2⟩
      have HI2 := Lib.hid hI2
      clear hI2
      go_wp2_with fail
      go_ret
      exact ⟨true, _, rfl, HI2.out, .inl ⟨rfl, HPP.out, ok_app HOK.out fun s hs => absurd hs mem_plainP⟩⟩

set_option maxHeartbeats 4000000 in
set_option maxRecDepth 100000 in
theorem each_expand (w : World) (t0 : List UInt8) (g b : Nat) (ok : List UInt8 → Bool) (I : List Part → World → Prop) (hl : t0.length ≤ 1099511627) (h0 : I [] w)
    (hmax : ∀ d w, I d w → MaxI w) (hkeep : ∀ d w w', I d w → Kept w w' NoB → I d w')
    (hplain : ∀ d a w, I d w → wtP d + a.length ≤ t0.length → Calls Tryd.prog 24 #[.string (strB a), .pointer (some ⟨b, 0, none⟩)] w fun en w' => en = .returned (.tuple #[]) ∧ I (d ++ plainP a) w')
    (hname : ∀ d s w, I d w → wtP d + s.length + 1 ≤ t0.length → Calls Tryd.prog 26 #[.string (strB s), .pointer (some ⟨g, 0, none⟩), .pointer (some ⟨b, 0, none⟩)] w fun en w' => en = .returned (.bool (ok s)) ∧ I (d ++ [(s, true)]) w') :
    Calls Tryd.prog 23 #[.string (strB t0), .func (.func 24) #[] #[.pointer (some ⟨b, 0, none⟩)], .func (.func 26) #[] #[.pointer (some ⟨g, 0, none⟩), .pointer (some ⟨b, 0, none⟩)]] w (EachPost t0 ok I) := by
  have H0 := Lib.hid h0
  have HMAX := Lib.hid hmax
  have HKEEP := Lib.hid hkeep
  have HPLAIN := Lib.hid hplain
  have HNM := Lib.hid hname
  clear h0 hmax hkeep hplain hname
  go_enter Tryd.func23, Tryd.ntmps23
  go_wp2_with fail
  go_loopg [0] t0.length (fun gk v0 wr => EachS t0 ok I gk v0 wr)
  case atStart => exact ⟨t0, [], rfl, rfl, H0.out, by simp [wtP], by simp, fun s hs => by simp at hs⟩
  case round =>
    obtain ⟨t, d, rfl, hgk, hI, hw, hp, hok⟩ := hrel
    have HG := Lib.hid hgk
    have HI := Lib.hid hI
    have HP := Lib.hid hp
    have HOK := Lib.hid hok
    clear hgk hI hp hok
    have htl : t.length ≤ 1099511627 := by omega
    rcases cut36 t with ⟨a, r, ht, ha, hc⟩ | ⟨ha, hc⟩
    · have HT := Lib.hid ht
      have HA := Lib.hid ha
      have HC := Lib.hid hc
      have hlen : t.length = a.length + (r.length + 1) := by rw [ht]; simp
      have hpt : partsL t = (partsM .s r).map (plainP a ++ ·) := by rw [ht, partsL_plain _ _ ha, partsL_dollar]
      have HPT := Lib.hid hpt
      have HLEN := Lib.hid hlen
      clear ht ha hc hlen hpt
      go_wp2_with fail
      refine (cut36_at wr t _ htl (HMAX.out _ _ HI.out) HC.out).mono ?_
      rintro en w1 ⟨rfl, hk1⟩
      have HI1 := Lib.hid (HKEEP.out _ _ _ HI.out hk1)
      clear hk1
      go_wp2_with fail
      refine (HPLAIN.out d a w1 HI1.out (by have := HLEN.out; omega)).mono ?_
      rintro en w2 ⟨rfl, hI2⟩
      have HI2 := Lib.hid hI2
      clear hI2
      go_wp2_with fail
      rcases vcut_def r with ⟨r', hr, hv, _⟩ | ⟨hr, hv, _⟩ | ⟨c, hc, hne, hlow, hv, _⟩ | ⟨c, hc, hne, hlow, hv, _⟩
      · have HR := Lib.hid hr
        have HV := Lib.hid hv
        clear hr hv
        refine (vcut_calls w2 r (by have := HLEN.out; omega) _ HV.out).mono ?_
        rintro en w3 ⟨rfl, hk3⟩
        have HI3 := Lib.hid (HKEEP.out _ _ _ HI2.out hk3)
        have b1 : (strB [36] == (⟨#[36]⟩ : ByteArray)) = true := by rw [show (⟨#[36]⟩ : ByteArray) = strB [36] from rfl]; exact (Go.MapKept.bytes_beq _ _).2 rfl
        have b2 : (([36] : List UInt8) == [36]) = true := rfl
        clear hk3
        go_wp2_with fail
        refine (HPLAIN.out _ [36] w3 HI3.out (by rw [wtP_app, wtP_plain]; have := HLEN.out; have := HR.out; have := congrArg List.length this; simp at this ⊢; omega)).mono ?_
        rintro en w4 ⟨rfl, hI4⟩
        have HI4 := Lib.hid hI4
        have hrl : r.length = r'.length + 1 := by rw [HR.out]; simp
        have hpp : partsL t0 = (partsL r').map ((d ++ plainP a ++ plainP [36]) ++ ·) := by
          have e : partsM .s r = (partsL r').map (plainP [36] ++ ·) := by
            rw [HR.out, partsM_sign]
            simp [plainP, low_no36]
          rw [HP.out, HPT.out, e, map_map_app, map_map_app]
        have HPP := Lib.hid hpp
        have HRL := Lib.hid hrl
        clear hI4 hpp hrl
        go_wp2_with fail
        go_roundg r'.length
        case measure => have := HG.out; have := HLEN.out; have := HRL.out; omega
        case rel => exact ⟨r', _, rfl, rfl, HI4.out, by rw [wtP_app, wtP_app, wtP_plain, wtP_plain]; have := HLEN.out; have := HRL.out; simp; omega, HPP.out, ok_app (ok_app HOK.out fun s hs => absurd hs mem_plainP) fun s hs => absurd hs mem_plainP⟩
      · have hnone : partsL t0 = none := by
          rw [HP.out, HPT.out, hr]
          rfl
        have HN := Lib.hid hnone
        have HV := Lib.hid hv
        clear hr hv hnone
        refine (vcut_calls w2 r (by have := HLEN.out; omega) _ HV.out).mono ?_
        rintro en w3 ⟨rfl, hk3⟩
        have HI3 := Lib.hid (HKEEP.out _ _ _ HI2.out hk3)
        clear hk3
        go_wp2_with fail
        go_ret
        exact ⟨false, _, rfl, HI3.out, .inr ⟨rfl, .inl HN.out⟩⟩
      · have hnone : partsL t0 = none := by
          have e : partsM .s r = none := by
            rw [partsM_sign]
            cases r with
            | nil => exact absurd rfl hne
            | cons x r' =>
              have hx : x = c := by simpa using hc
              subst hx
              simp only
              rw [if_neg (by rw [hlow]; exact Bool.false_ne_true), if_neg]
              rintro rfl
              simp [vcutL] at hv
          rw [HP.out, HPT.out, e]
          rfl
        have HN := Lib.hid hnone
        have HV := Lib.hid hv
        clear hc hne hlow hv hnone
        refine (vcut_calls w2 r (by have := HLEN.out; omega) _ HV.out).mono ?_
        rintro en w3 ⟨rfl, hk3⟩
        have HI3 := Lib.hid (HKEEP.out _ _ _ HI2.out hk3)
        clear hk3
        go_wp2_with fail
        go_ret
        exact ⟨false, _, rfl, HI3.out, .inr ⟨rfl, .inl HN.out⟩⟩
      · have e : partsM .s r = (partsL (r.dropWhile moreC)).map ([(r.takeWhile moreC, true)] ++ ·) := by
          rw [partsM_sign]
          cases r with
          | nil => exact absurd rfl hne
          | cons x r' =>
            have hx : x = c := by simpa using hc
            subst hx
            simp only
            rw [if_pos hlow]
            rfl
        have hrl : r.length = (r.takeWhile moreC).length + (r.dropWhile moreC).length := by rw [← List.length_append, List.takeWhile_append_dropWhile]
        obtain ⟨N, hN⟩ : ∃ N, r.takeWhile moreC = N := ⟨_, rfl⟩
        obtain ⟨R, hR⟩ : ∃ R, r.dropWhile moreC = R := ⟨_, rfl⟩
        have hne36 := take_ne36 N hN
        rw [hN, hR] at e hrl hv
        have hpp : partsL t0 = (partsL R).map ((d ++ plainP a ++ [(N, true)]) ++ ·) := by
          rw [HP.out, HPT.out, e, map_map_app, map_map_app]
        have HPP := Lib.hid hpp
        have HRL := Lib.hid hrl
        have HV := Lib.hid hv
        have b2 : (N == [36]) = false := beq_eq_false_iff_ne.2 hne36
        have b1 : (strB N == (⟨#[36]⟩ : ByteArray)) = false := by
          cases hh : (strB N == (⟨#[36]⟩ : ByteArray)) with
          | false => rfl
          | true => exact absurd (strB_inj ((Go.MapKept.bytes_beq _ _).1 hh) : N = [36]) hne36
        clear hc hne hlow hv e hN hR hne36 hpp hrl
        refine (vcut_calls w2 r (by have := HLEN.out; omega) _ HV.out).mono ?_
        rintro en w3 ⟨rfl, hk3⟩
        have HI3 := Lib.hid (HKEEP.out _ _ _ HI2.out hk3)
        clear hk3
        go_wp2_with fail
        refine (HNM.out _ N w3 HI3.out (by rw [wtP_app, wtP_plain]; have := HLEN.out; have := HRL.out; omega)).mono ?_
        obtain ⟨q, hq⟩ : ∃ q, ok N = q := ⟨_, rfl⟩
        rw [hq]
        have HQ := Lib.hid hq
        rintro en w4 ⟨rfl, hI4⟩
        have HI4 := Lib.hid hI4
        clear hI4 hq
        cases q with
        | true =>
          go_wp2_with fail
          go_roundg R.length
          case measure => have := HG.out; have := HLEN.out; have := HRL.out; omega
          case rel => exact ⟨R, _, rfl, rfl, HI4.out, by rw [wtP_app, wtP_app, wtP_plain, wtP_name]; have := HLEN.out; have := HRL.out; omega, HPP.out, ok_app (ok_app HOK.out fun s hs => absurd hs mem_plainP) fun s hs => by simp at hs; rw [hs]; exact HQ.out⟩
        | false =>
          go_wp2_with fail
          go_ret
          refine ⟨false, _, rfl, HI4.out, .inr ⟨rfl, ?_⟩⟩
          rw [HPP.out]
          cases partsL R with
          | none => exact .inl rfl
          | some l => exact .inr ⟨_, N, rfl, by simp, HQ.out⟩
    · have HC := Lib.hid hc
      have hpp : partsL t0 = some (d ++ plainP t) := by rw [HP.out, partsL_all ha]; rfl
      have HPP := Lib.hid hpp
      clear hc ha hpp
      go_wp2_with fail
      refine (cut36_at wr t _ htl (HMAX.out _ _ HI.out) HC.out).mono ?_
      rintro en w1 ⟨rfl, hk1⟩
      have HI1 := Lib.hid (HKEEP.out _ _ _ HI.out hk1)
      clear hk1
      go_wp2_with fail
      refine (HPLAIN.out d t w1 HI1.out (by omega)).mono ?_
      rintro en w2 ⟨rfl, hI2⟩
      have HI2 := Lib.hid hI2
      clear hI2
      go_wp2_with fail
      go_ret
      exact ⟨true, _, rfl, HI2.out, .inl ⟨rfl, HPP.out, ok_app HOK.out fun s hs => absurd hs mem_plainP⟩⟩
end Go.Proofs.YtcggpedebcamdaaDoor
