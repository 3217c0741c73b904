/- ReplyBack's walk. -/
import Derived.Test.YtamemddgajmimaaDoorRepCodes
set_option linter.unusedVariables false
set_option linter.unusedSimpArgs false
namespace Go.Proofs.YtamemddgajmimaaDoor
open Go.RowKit Go.Shelf

theorem and1023 (n : Int) : ∃ m : Nat, m ≤ 1023 ∧ bits .and .i64 n 1023 = (m : Int) := by
  refine ⟨(BitVec.ofInt 64 n &&& BitVec.ofInt 64 1023).toNat, ?_, ?_⟩
  · rw [BitVec.toNat_and]
    exact Nat.and_le_right
  · have h : (BitVec.ofInt 64 n &&& BitVec.ofInt 64 1023).toNat ≤ 1023 := by
      rw [BitVec.toNat_and]
      exact Nat.and_le_right
    show IntKind.i64.wrap (((BitVec.ofInt 64 n &&& BitVec.ofInt 64 1023).toNat : Nat) : Int) = _
    rw [IntKind.wrap_i64]
    omega
/-! ### Plain -/
def blB (ftp : Bool) (code : List UInt8) (k : Nat) (x : List UInt8) : List UInt8 := if ftp = true ∧ 1 ≤ k then code ++ 45 :: x else x
def wantB (ftp : Bool) (code : List UInt8) (l : List (List UInt8)) (i : Nat) : List (List UInt8) := (l.take i).mapIdx (blB ftp code)
theorem wantB_len (ftp : Bool) (code : List UInt8) (l : List (List UInt8)) {i : Nat} (h : i ≤ l.length) : (wantB ftp code l i).length = i := by
  unfold wantB
  rw [List.length_mapIdx, List.length_take]
  omega
theorem wantB_succ (ftp : Bool) (code : List UInt8) (l : List (List UInt8)) {i : Nat} (h : i < l.length) : wantB ftp code l (i + 1) = wantB ftp code l i ++ [blB ftp code i l[i]] := by
  unfold wantB
  rw [List.take_succ_eq_append_getElem h, List.mapIdx_concat, List.length_take, Nat.min_eq_left (Nat.le_of_lt h)]
def StB (ftp : Bool) (code : List UInt8) (l : List (List UInt8)) (st : Option Rp) (i : Nat) : Prop := (i = 0 ∧ st = none) ∨ (1 ≤ i ∧ st = some (code, wantB ftp code l i))
def prF (ftp : Bool) : Int := if ftp then 3 else 1
theorem prF_or (ftp : Bool) : prF ftp = 1 ∨ prF ftp = 3 := by cases ftp <;> simp [prF]
section
variable {ftp : Bool} {code : List UInt8} {l : List (List UInt8)} {st : Option Rp} {i : Nat}
theorem back_more (hc : code.length = 3) (hn : numL code = true) (h : StB ftp code l st i) (hi : i < l.length) (h20 : i < 20) : ∃ st', stepM (prF ftp) st (code ++ 45 :: l[i]) = (none, 0, st') ∧ StB ftp code l st' (i + 1) := by
  refine ⟨some (code, wantB ftp code l (i + 1)), ?_, .inr ⟨by omega, rfl⟩⟩
  have hs := code_status (prF_or ftp) hc hn 45 l[i]
  rw [if_pos rfl] at hs
  rcases h with ⟨rfl, rfl⟩ | ⟨h1, rfl⟩
  · rw [wantB_succ ftp code l hi]
    simp [stepM, hs, wantB, blB]
  · have hlen := wantB_len ftp code l (Nat.le_of_lt hi)
    have hnf : ¬ 20 ≤ (wantB ftp code l i).length := by omega
    rw [wantB_succ ftp code l hi]
    cases ftp with
    | false =>
      have hs1 : statusL 1 (code ++ 45 :: l[i]) = some (code, true, l[i]) := hs
      rw [show prF false = 1 from rfl, stepM1 hs1 rfl, if_neg hnf]
      simp [blB]
    | true =>
      have hs3 : statusL 3 (code ++ 45 :: l[i]) = some (code, true, l[i]) := hs
      have hf : lastF 3 code (code ++ 45 :: l[i]) = none := by simp [lastF, hs3]
      rw [show prF true = 3 from rfl, stepM3, hf]
      simp only [if_neg hnf, blB, h1, and_self, if_true]
theorem back_last (hc : code.length = 3) (hn : numL code = true) (h : StB ftp code l st i) (hi : i < l.length) (h20 : i < 20) : stepM (prF ftp) st (code ++ 32 :: l[i]) = (some (code, wantB ftp code l i ++ [l[i]]), 0, none) := by
  have hs := code_status (prF_or ftp) hc hn 32 l[i]
  rw [if_neg (by decide), if_pos rfl] at hs
  rcases h with ⟨rfl, rfl⟩ | ⟨h1, rfl⟩
  · simp [stepM, hs, wantB]
  · have hlen := wantB_len ftp code l (Nat.le_of_lt hi)
    have hnf : ¬ 20 ≤ (wantB ftp code l i).length := by omega
    cases ftp with
    | false =>
      have hs1 : statusL 1 (code ++ 32 :: l[i]) = some (code, false, l[i]) := hs
      rw [show prF false = 1 from rfl, stepM1 hs1 rfl, if_neg hnf]
      rfl
    | true =>
      have hs3 : statusL 3 (code ++ 32 :: l[i]) = some (code, false, l[i]) := hs
      have hf : lastF 3 code (code ++ 32 :: l[i]) = some l[i] := by simp [lastF, hs3]
      rw [show prF true = 3 from rfl, stepM3, hf]
      simp only [if_neg hnf]
theorem back_full (hc : code.length = 3) (hn : numL code = true) (h : StB ftp code l st 20) (hi : 20 < l.length) {b : UInt8} (hb : b = 45 ∨ b = 32) : stepM (prF ftp) st (code ++ b :: l[20]) = (none, 72, none) := by
  rcases h with ⟨h0, _⟩ | ⟨h1, rfl⟩
  · omega
  · have hlen := wantB_len ftp code l (Nat.le_of_lt hi)
    have hf20 : 20 ≤ (wantB ftp code l 20).length := by omega
    have hs := code_status (prF_or ftp) hc hn b l[20]
    cases ftp with
    | false =>
      rw [show prF false = 1 from rfl] at hs ⊢
      rcases hb with rfl | rfl
      · rw [if_pos rfl] at hs
        rw [stepM1 hs rfl, if_pos hf20]
      · rw [if_neg (by decide), if_pos rfl] at hs
        rw [stepM1 hs rfl, if_pos hf20]
    | true =>
      rw [show prF true = 3 from rfl] at hs ⊢
      rcases hb with rfl | rfl
      · rw [if_pos rfl] at hs
        have hf : lastF 3 code (code ++ (45 : UInt8) :: l[20]) = none := by simp [lastF, hs]
        rw [stepM3, hf]
        simp only [if_pos hf20]
      · rw [if_neg (by decide), if_pos rfl] at hs
        have hf : lastF 3 code (code ++ (32 : UInt8) :: l[20]) = some l[20] := by simp [lastF, hs]
        rw [stepM3, hf]
        simp only [if_pos hf20]
end
/-- What is wanted, behind so many rounds. -/
def wantK (code : List UInt8) (l : List (List UInt8)) (k : Nat) : List (List UInt8) := l.mapIdx fun j x => if 1 ≤ j ∧ j < k then code ++ 45 :: x else x
theorem wantK_one (code : List UInt8) (l : List (List UInt8)) : wantK code l 1 = l := by
  unfold wantK
  apply List.ext_getElem
  · simp
  · intro j h1 h2
    rw [List.getElem_mapIdx, if_neg (by omega)]
theorem wantK_len (code : List UInt8) (l : List (List UInt8)) (k : Nat) : (wantK code l k).length = l.length := by simp [wantK]
theorem wantK_get (code : List UInt8) (l : List (List UInt8)) (k j : Nat) (h : j < (wantK code l k).length) (h' : j < l.length) : (wantK code l k)[j] = if 1 ≤ j ∧ j < k then code ++ 45 :: l[j] else l[j] := List.getElem_mapIdx ..
theorem wantB_get (ftp : Bool) (code : List UInt8) (l : List (List UInt8)) (i j : Nat) (h : j < (wantB ftp code l i).length) (h' : j < l.length) : (wantB ftp code l i)[j] = blB ftp code j l[j] := by
  have : (wantB ftp code l i)[j] = blB ftp code j ((l.take i)[j]'(by unfold wantB at h; rw [List.length_mapIdx] at h; exact h)) := List.getElem_mapIdx ..
  rw [this, List.getElem_take]
theorem wantK_succ (code : List UInt8) (l : List (List UInt8)) {k : Nat} (h1 : 1 ≤ k) (h : k < l.length) : wantK code l (k + 1) = (wantK code l k).set k (code ++ 45 :: l[k]) := by
  apply List.ext_getElem
  · simp [wantK]
  · intro j h2 h3
    have hj : j < l.length := by rw [wantK_len] at h2; exact h2
    rw [wantK_get code l (k + 1) j h2 hj, List.getElem_set]
    by_cases e : k = j
    · subst e
      rw [if_pos ⟨h1, by omega⟩, if_pos rfl]
    · rw [if_neg e, wantK_get code l k j (by rw [wantK_len]; exact hj) hj]
      have : (1 ≤ j ∧ j < k + 1) ↔ (1 ≤ j ∧ j < k) := by omega
      simp only [this]
theorem wantK_fin (code : List UInt8) (l : List (List UInt8)) {i k : Nat} (hi : i + 1 = l.length) (hk : i ≤ k) (hk2 : k ≤ i ∨ k = 1) : wantB true code l i ++ [l[i]'(by omega)] = wantK code l k := by
  apply List.ext_getElem
  · rw [List.length_append, wantB_len true code l (by omega), wantK_len]
    exact hi
  · intro j h1 h2
    have hjl : j < l.length := by rw [wantK_len] at h2; exact h2
    rw [wantK_get code l k j h2 hjl]
    rcases Nat.lt_or_ge j i with h | h
    · rw [List.getElem_append_left (by rw [wantB_len true code l (by omega)]; exact h), wantB_get true code l i j _ hjl]
      unfold blB
      by_cases h1j : 1 ≤ j
      · rw [if_pos ⟨rfl, h1j⟩, if_pos ⟨h1j, by omega⟩]
      · rw [if_neg (fun e => h1j e.2), if_neg (fun e => h1j e.1)]
    · have e : j = i := by omega
      subst e
      rw [List.getElem_append_right (by rw [wantB_len true code l (by omega)]; omega), if_neg (by omega)]
      simp [wantB_len true code l (show j ≤ l.length by omega)]
theorem wantF_fin (code : List UInt8) (l : List (List UInt8)) {i : Nat} (hi : i + 1 = l.length) : wantB false code l i ++ [l[i]'(by omega)] = l := by
  have e : wantB false code l i = l.take i := by
    unfold wantB
    apply List.ext_getElem
    · simp
    · intro j h1 h2
      rw [List.getElem_mapIdx]
      simp [blB]
  rw [e, ← List.take_succ_eq_append_getElem (by omega), List.take_of_length_le (by omega)]
/-! ### A store into a row of the call's own -/
theorem Row.store {w : World} {S : Nat → Prop} {v : Value} {ls : List (List UInt8)} (h : Row w 9 S v (strs ls)) {k : Nat} (hk : k < ls.length) (x : List UInt8) :
    ∃ g c, v = .slice (some ⟨g, 0, none⟩) ls.length c ∧ ls.length ≤ c ∧ S g ∧ g < w.heap.size ∧ OB v g ∧ (∃ u, w.cell? ⟨g, k, none⟩ = some u) ∧ w.frozen? ⟨g, k, none⟩ = false ∧ Row (w.setCell ⟨g, k, none⟩ (.string (strB x))) 9 S v (strs (ls.set k x)) := by
  have hl : (strs ls).length = ls.length := strs_length ls
  rcases h.1.2 with ⟨_, h0⟩ | ⟨g, cap, cur, rfl, hb, hh, h1, h2, h3, h4⟩
  · rw [hl] at h0; omega
  · rw [hl] at h1 h4 ⊢
    have hlt : g < w.heap.size := (Array.getElem?_eq_some_iff.1 hh).1
    have hkc : k < cur.size := by omega
    refine ⟨g, cap, by first | rfl | rw [hl] | simp [strs], h1, h.2 g (by simp [Value.ownBlock]), hlt, by simp [OB, Value.ownBlock], ⟨cur[k], ?_⟩, ?_, ?_⟩
    · rw [cell_of_row w g k cur _ (0, 0) hh, Array.getElem?_eq_getElem hkc]
    · simp [World.frozen?, hh]
    · refine ⟨⟨by first | rfl | rw [hl] | simp [strs], .inr ⟨g, cap, cur.setIfInBounds k (.string (strB x)), by first | rfl | simp [strs], hb, ?_, by rw [strs_length, List.length_set]; exact h1, h2, by rw [Array.size_setIfInBounds]; exact h3, ?_⟩⟩, h.2⟩
      · simp [World.setCell, Array.getElem?_modify, hh]
      · rw [strs_length, List.length_set, Nat.mul_one]
        rw [Nat.mul_one] at h4
        have e : (strs (ls.set k x)) = (strs ls).set k (.string (strB x)) := by unfold strs; rw [List.map_set]
        rw [e, ← h4, Array.toList_setIfInBounds, List.take_set]
def BkS (W : World) (g : Nat) (ftp : Bool) (code : List UInt8) (l : List (List UInt8)) (N gk : Nat) (vi : Value) (wr : World) : Prop :=
  ∃ i st v, i ≤ N ∧ i ≤ 20 ∧ gk = N - i ∧ vi = .int .i64 ((i : Nat) : Int) ∧ StB ftp code l st i ∧ MkSt wr g (prF ftp) st v ∧ (∀ k, OB v k → W.heap.size ≤ k) ∧ Kept W wr (fun k => k = g)
def WkS (w0 : World) (ftp : Bool) (code : List UInt8) (l : List (List UInt8)) (v : Value) (N gk : Nat) (vk : Value) (wr : World) : Prop :=
  ∃ k, 1 ≤ k ∧ (k = 1 ∨ k + 1 ≤ N) ∧ (ftp = false → k = 1) ∧ gk = N - k ∧ vk = .int .i64 ((k : Nat) : Int) ∧ Row wr 9 anyB v (strs (wantK code l k)) ∧ Kept w0 wr (OB v)
set_option maxHeartbeats 8000000 in
set_option maxRecDepth 100000 in
theorem back_law_false (w : World) (n0 : Int) (S : Nat → Prop) (A : Option Addr) (n c : Nat) (la : List (List UInt8)) (hA : Reads w S A n (strs la)) (hn : n ≤ 9223372036854775807) (hela : ∀ x ∈ la, x.length ≤ 9223372036854775807) (hm : MaxI w) :
    Calls Tryd.prog 4 #[.int .i64 n0, .slice A n c, .bool false] w fun en w' => en = .returned (.bool true) ∧ Kept w w' NoB := by
  have HA := Lib.hid hA
  have HELA := Lib.hid hela
  obtain ⟨i0, hi0, hz0, hz1, hz2⟩ := info_parts info_str
  obtain ⟨kk, hkk, hkb⟩ := and1023 n0
  have hk1 : (0 : Int) ≤ (kk : Int) := by omega
  obtain ⟨q, hq⟩ : ∃ q, kk % 500 = q := ⟨_, rfl⟩
  have hql : q < 500 := by omega
  have hqI : (kk : Int) % 500 = (q : Int) := by omega
  have HN := Lib.hid (dig3_num ⟨q, hql⟩)
  clear hA hela hq
  go_enter Tryd.func4, Tryd.ntmps4
  go_wp2_with fail
  refine (shown_calls w hm).mono ?_
  rintro en w1 ⟨rfl, hk1'⟩
  have HK1 := Lib.hid hk1'
  have hsz1 := hk1'.size
  clear hk1'
  go_wp2_with fail
  refine (new_calls w1 1).mono ?_
  rintro en w2 ⟨rfl, hw2⟩
  have h2 := MkSt.new w1 1
  rw [← hw2] at h2
  have hk2 : Kept w1 w2 NoB := by rw [hw2]; exact (Kept.refl _ _).alloc _
  have H2 := Lib.hid h2
  have HK2 := Lib.hid (HK1.out.trans' hk2)
  clear hw2 h2 hk2
  go_wp2_with fail
  refine (short_calls w2 S A n c la (HA.out.kept0 HK2.out) hn HELA.out).mono ?_
  rintro en W ⟨va, rfl, hra, hk4⟩
  have HKW := Lib.hid (HK2.out.trans' hk4)
  have hg4 := H2.out.kept0 hk4
  obtain ⟨fl, hfl⟩ : ∃ f, few40 la = f := ⟨_, rfl⟩
  have hfll : fl.length ≤ 40 := by rw [← hfl]; exact few40_len la
  have HFE : Hid (∀ x ∈ fl, x.length ≤ 200) := by rw [← hfl]; exact few40_el la
  rw [hfl] at hra
  have hgb := hg4.blk
  obtain ⟨gcs, hgb⟩ := hgb
  have hagN := ob_far hgb hra
  obtain ⟨A', ca, rfl, hca, hrA⟩ := hra.readsO (n := fl.length) (strs_length fl)
  have hgl := hg4.lt
  have HG4 := Lib.hid hg4
  have HAGN := Lib.hid hagN
  have HRA := Lib.hid hrA
  have HOBL : Hid (∀ b, OB (.slice A' fl.length ca) b → b < W.heap.size) := fun b hb => hra.lt (k := b) hb
  clear hra hk4 hg4 hgb hagN hrA hfl
  by_cases hcut : 30 < fl.length
  · have hci : (30 : Int) < (fl.length : Int) := by omega
    have hrl := HRA.out.take (k := 30) (by omega)
    obtain ⟨l, hl⟩ : ∃ l, fl.take 30 = l := ⟨_, rfl⟩
    have htk : (strs fl).take 30 = strs l := by rw [← hl]; simp [strs, List.map_take]
    rw [htk] at hrl
    have hln : l.length = 30 := by rw [← hl, List.length_take]; omega
    have HLE : Hid (∀ x ∈ l, x.length ≤ 200) := fun x hx => HFE.out x (by rw [← hl] at hx; exact List.mem_of_mem_take hx)
    have HRL := Lib.hid hrl
    have HLN := Lib.hid hln
    obtain ⟨S1, hS1⟩ : ∃ S1, OB (.slice A' fl.length ca) = S1 := ⟨_, rfl⟩
    have HSB : Hid (∀ b, S1 b → b < W.heap.size) := fun b hb => HOBL.out b (by rw [hS1]; exact hb)
    rw [hS1] at HRL HAGN
    clear hcut hl htk hrl hln hS1
    go_wp2_with fail
    refine (digits_calls _ (100 + q) (by omega) (by omega)).mono ?_
    have hcl : (dig3 (100 + q)).length = 3 := rfl
    have hcn : numL (dig3 (100 + q)) = true := HN.out
    obtain ⟨code, hcode⟩ : ∃ x, dig3 (100 + q) = x := ⟨_, rfl⟩
    rw [hcode] at hcl hcn
    rw [hcode]
    rintro en wa ⟨rfl, rfl⟩
    have HCL := Lib.hid hcl
    have HCN := Lib.hid hcn
    have hcl3 : code.length ≤ 3 := by omega
    clear hcode hcl hcn
    go_wp2_with fail
    go_loopg [11] 30 (fun gk vi wr => BkS wa w1.heap.size false code l 30 gk vi wr)
    case atStart => exact ⟨0, none, .slice none 0 0, Nat.zero_le _, by omega, rfl, rfl, .inl ⟨rfl, rfl⟩, HG4.out, fun k hk => absurd hk ob_nil, Kept.refl _ _⟩
    case round =>
      obtain ⟨i, st, v, hi, hi20, hgk, rfl, hst, hmk, hv, hkr⟩ := hrel
      have HG := Lib.hid hgk
      have HST := Lib.hid hst
      have HMK := Lib.hid hmk
      have HV := Lib.hid hv
      have HKR := Lib.hid hkr
      have HSR := hkr.size
      have HK0 := Lib.hid (HKW.out.trans hkr fun b hb => .inr (by rw [hb]; exact hsz1))
      clear hgk hst hmk hv hkr hkb hqI hci
      rcases Nat.lt_or_ge i 30 with hlt | hge
      · have hil : i < l.length := by have := HLN.out; omega
        have hrd := HRL.out.kept HKR.out (fun b _ hb e => HAGN.out (e ▸ hb))
        obtain ⟨ad, u, hAd, hu, hcell⟩ := hrd.at_ hlt
        subst hAd
        rw [strs_at l i hil] at hu
        injection hu with hu
        subst hu
        have hxl := HLE.out l[i] (List.getElem_mem hil)
        have hmore := fun h20 : i < 20 => back_more HCL.out HCN.out HST.out hil h20
        have hlst := fun h20 : i < 20 => back_last HCL.out HCN.out HST.out hil h20
        have hful : i = 20 → ∀ b : UInt8, (b = 45 ∨ b = 32) → stepM (prF false) st (code ++ b :: l[i]) = (none, 72, none) := fun h b hb => by
          subst h
          exact back_full HCL.out HCN.out HST.out hil hb
        obtain ⟨x, hx⟩ : ∃ x, l[i] = x := ⟨_, rfl⟩
        rw [hx] at hcell hxl
        simp only [hx] at hmore hlst hful
        have HX := Lib.hid hx
        have HMORE := Lib.hid hmore
        have HLST := Lib.hid hlst
        have HFUL := Lib.hid hful
        clear hx hrd hmore hlst hful
        have ti : (i : Int) < 30 := by omega
        by_cases hlast : i + 1 = 30
        · exact absurd hlast (by omega)
        · have tl : ((i : Int) == 29) = false := by rw [beq_eq_false_iff_ne]; omega
          have e1 : strB code ++ (⟨#[45]⟩ : ByteArray) = strB (code ++ [45]) := strB_app code [45]
          have e2 : strB (code ++ [45]) ++ strB x = strB (code ++ 45 :: x) := by rw [strB_app]; simp
          have l1 : (code ++ 45 :: x).length ≤ 300 := by simp; omega
          have lu1 : (code ++ [45]).length ≤ 4 := by simp; omega
          obtain ⟨s1, hs1⟩ : ∃ s, code ++ 45 :: x = s := ⟨_, rfl⟩
          obtain ⟨u1, hu1⟩ : ∃ s, code ++ [45] = s := ⟨_, rfl⟩
          rw [hu1] at e1 e2 lu1
          rw [hs1] at e2 l1
          have HS1 := Lib.hid hs1
          have z1 : ¬ (9223372036854775807 < code.length + 1) := by omega
          have z2 : ¬ (9223372036854775807 < u1.length + x.length) := by omega
          clear hs1 hu1
          by_cases h20 : i < 20
          · obtain ⟨st', hs1', hs2⟩ := HMORE.out h20
            have hst : stepM 1 st s1 = (none, 0, st') := by rw [← HS1.out]; exact hs1'
            have HSTP := Lib.hid hst
            have HS2 := Lib.hid hs2
            have t20 : ¬ (20 : Int) ≤ (i : Int) := by omega
            have hsome : st'.isSome = true := by
              rcases hs2 with ⟨h, _⟩ | ⟨_, h⟩
              · omega
              · rw [h]; rfl
            have HSOME := Lib.hid hsome
            clear hst hs1' hs2 hsome
            go_wp2_with fail
            refine (line_at _ _ 1 st v s1 true _ _ rfl HSTP.out HMK.out (by omega) (hm.kept0 HK0.out) (by decide)).mono ?_
            rintro en w3 ⟨vr, v3, rfl, hr, h3, hk3, ho3, _⟩
            simp only [rpV, Option.getD_none, Option.isSome_none]
            obtain ⟨A3, c3, rfl, _⟩ := hr.readsN (n := 0) rfl
            have H3 := Lib.hid h3
            have HO3 : Hid (∀ k, OB v3 k → wa.heap.size ≤ k) := fun k hk => (ho3 k hk).elim (HV.out k) fun h => by omega
            have HKR3 := Lib.hid (HKR.out.trans hk3 fun b hb => hb.imp id fun h => HV.out b h)
            clear hr h3 hk3 ho3
            go_wp2_with fail
            refine (busy_calls _ w1.heap.size 1 st' v3 (H3.out.kept0 ((Kept.refl _ _).alloc _))).mono ?_
            rw [HSOME.out]
            rintro en w4 ⟨rfl, rfl⟩
            go_wp2_with fail
            go_roundg (30 - (i + 1))
            case measure => have := HG.out; omega
            case rel => exact ⟨i + 1, st', v3, by omega, by omega, rfl, by go_num, HS2.out, H3.out.kept0 ((Kept.refl _ _).alloc _), HO3.out, HKR3.out.alloc _⟩
          · have hie : i = 20 := by omega
            have hst : stepM 1 st s1 = (none, 72, none) := by rw [← HS1.out]; exact HFUL.out hie 45 (.inl rfl)
            have HSTP := Lib.hid hst
            have t20 : (20 : Int) ≤ (i : Int) := by omega
            clear hst hie h20
            go_wp2_with fail
            refine (line_at _ _ 1 st v s1 true _ _ rfl HSTP.out HMK.out (by omega) (hm.kept0 HK0.out) (by decide)).mono ?_
            rintro en w3 ⟨vr, v3, rfl, hr, h3, hk3, ho3, _⟩
            simp only [rpV, Option.getD_none, Option.isSome_none]
            obtain ⟨A3, c3, rfl, _⟩ := hr.readsN (n := 0) rfl
            have H3 := Lib.hid h3
            have HK3 := Lib.hid (HK0.out.trans hk3 fun b hb => .inr (by
              rcases hb with rfl | hb
              · exact hsz1
              · have := HV.out _ hb; have := HKW.out.size; omega))
            clear hr h3 hk3 ho3
            go_wp2_with fail
            refine (busy_calls _ w1.heap.size 1 none v3 (H3.out.kept0 ((Kept.refl _ _).alloc _))).mono ?_
            rintro en w4 ⟨rfl, rfl⟩
            go_wp2_with fail
            go_ret
            exact ⟨rfl, HK3.out.alloc _⟩
      · have ti : ¬ (i : Int) < 30 := by omega
        go_wp2_with fail
        go_ret
        exact ⟨rfl, HK0.out⟩
  · have hci : ¬ (30 : Int) < (fl.length : Int) := by omega
    obtain ⟨S1, hS1⟩ : ∃ S1, OB (.slice A' fl.length ca) = S1 := ⟨_, rfl⟩
    have HSB : Hid (∀ b, S1 b → b < W.heap.size) := fun b hb => HOBL.out b (by rw [hS1]; exact hb)
    have HLE := HFE
    have HRL := HRA
    rw [hS1] at HRL HAGN
    obtain ⟨l, hl⟩ : ∃ l, fl = l := ⟨_, rfl⟩
    subst hl
    have hfl30 : fl.length ≤ 30 := by omega
    have HLN : Hid (fl.length = fl.length) := rfl
    clear hcut hS1
    go_wp2_with fail
    refine (digits_calls _ (100 + q) (by omega) (by omega)).mono ?_
    have hcl : (dig3 (100 + q)).length = 3 := rfl
    have hcn : numL (dig3 (100 + q)) = true := HN.out
    obtain ⟨code, hcode⟩ : ∃ x, dig3 (100 + q) = x := ⟨_, rfl⟩
    rw [hcode] at hcl hcn
    rw [hcode]
    rintro en wa ⟨rfl, rfl⟩
    have HCL := Lib.hid hcl
    have HCN := Lib.hid hcn
    have hcl3 : code.length ≤ 3 := by omega
    clear hcode hcl hcn
    go_wp2_with fail
    go_loopg [11] fl.length (fun gk vi wr => BkS wa w1.heap.size false code fl fl.length gk vi wr)
    case atStart => exact ⟨0, none, .slice none 0 0, Nat.zero_le _, by omega, rfl, rfl, .inl ⟨rfl, rfl⟩, HG4.out, fun k hk => absurd hk ob_nil, Kept.refl _ _⟩
    case round =>
      obtain ⟨i, st, v, hi, hi20, hgk, rfl, hst, hmk, hv, hkr⟩ := hrel
      have HG := Lib.hid hgk
      have HST := Lib.hid hst
      have HMK := Lib.hid hmk
      have HV := Lib.hid hv
      have HKR := Lib.hid hkr
      have HSR := hkr.size
      have HK0 := Lib.hid (HKW.out.trans hkr fun b hb => .inr (by rw [hb]; exact hsz1))
      clear hgk hst hmk hv hkr hkb hqI hci
      rcases Nat.lt_or_ge i fl.length with hlt | hge
      · have hil : i < fl.length := by have := HLN.out; omega
        have hrd := HRL.out.kept HKR.out (fun b _ hb e => HAGN.out (e ▸ hb))
        obtain ⟨ad, u, hAd, hu, hcell⟩ := hrd.at_ hlt
        subst hAd
        rw [strs_at fl i hil] at hu
        injection hu with hu
        subst hu
        have hxl := HLE.out fl[i] (List.getElem_mem hil)
        have hmore := fun h20 : i < 20 => back_more HCL.out HCN.out HST.out hil h20
        have hlst := fun h20 : i < 20 => back_last HCL.out HCN.out HST.out hil h20
        have hful : i = 20 → ∀ b : UInt8, (b = 45 ∨ b = 32) → stepM (prF false) st (code ++ b :: fl[i]) = (none, 72, none) := fun h b hb => by
          subst h
          exact back_full HCL.out HCN.out HST.out hil hb
        obtain ⟨x, hx⟩ : ∃ x, fl[i] = x := ⟨_, rfl⟩
        rw [hx] at hcell hxl
        simp only [hx] at hmore hlst hful
        have HX := Lib.hid hx
        have HMORE := Lib.hid hmore
        have HLST := Lib.hid hlst
        have HFUL := Lib.hid hful
        clear hx hrd hmore hlst hful
        have ti : (i : Int) < (fl.length : Int) := by omega
        by_cases hlast : i + 1 = fl.length
        · have tl : ((i : Int) == (fl.length : Int) - 1) = true := by rw [beq_iff_eq]; omega
          have e1 : strB code ++ (⟨#[32]⟩ : ByteArray) = strB (code ++ [32]) := strB_app code [32]
          have e2 : strB (code ++ [32]) ++ strB x = strB (code ++ 32 :: x) := by rw [strB_app]; simp
          have l1 : (code ++ 32 :: x).length ≤ 300 := by simp; omega
          have lu1 : (code ++ [32]).length ≤ 4 := by simp; omega
          obtain ⟨s1, hs1⟩ : ∃ s, code ++ 32 :: x = s := ⟨_, rfl⟩
          obtain ⟨u1, hu1⟩ : ∃ s, code ++ [32] = s := ⟨_, rfl⟩
          rw [hu1] at e1 e2 lu1
          rw [hs1] at e2 l1
          have HS1 := Lib.hid hs1
          have z1 : ¬ (9223372036854775807 < code.length + 1) := by omega
          have z2 : ¬ (9223372036854775807 < u1.length + x.length) := by omega
          clear hs1 hu1
          by_cases h20 : i < 20
          · have hst : stepM 1 st s1 = (some (code, wantB false code fl i ++ [x]), 0, none) := by rw [← HS1.out]; exact HLST.out h20
            have HSTP := Lib.hid hst
            have t20 : ¬ (20 : Int) ≤ (i : Int) := by omega
            have hwl : (wantB false code fl i ++ [x]).length = fl.length := by
              rw [List.length_append, wantB_len false code fl (by have := HLN.out; omega)]
              exact hlast
            obtain ⟨rl, hrl⟩ : ∃ r, wantB false code fl i ++ [x] = r := ⟨_, rfl⟩
            rw [hrl] at HSTP hwl
            have HRLE := Lib.hid hrl
            have HWL := Lib.hid hwl
            clear hst hrl hwl
            go_wp2_with fail
            refine (line_at _ _ 1 st v s1 true _ _ rfl HSTP.out HMK.out (by omega) (hm.kept0 HK0.out) (by decide)).mono ?_
            rintro en w3 ⟨vr, v3, rfl, hr, h3, hk3, ho3, _⟩
            simp only [rpV, Option.getD_some, Option.isSome_some] at hr ⊢
            obtain ⟨A3, c3, rfl, hc3, hR3⟩ := hr.readsO (n := fl.length) (by rw [strs_length]; exact HWL.out)
            have H3 := Lib.hid h3
            have HR3 := Lib.hid hR3
            have HROB : Hid (∀ k, OB (.slice A3 fl.length c3) k → k < w3.heap.size) := fun k hk => hr.lt (k := k) hk
            have HKR3 := Lib.hid (HKR.out.trans hk3 fun b hb => hb.imp id fun h => HV.out b h)
            have HK3 := Lib.hid (HK0.out.trans hk3 fun b hb => .inr (by
              rcases hb with rfl | hb
              · exact hsz1
              · have := HV.out _ hb; have := HKW.out.size; omega))
            have hs3 := hk3.size
            clear hr h3 hk3 ho3 hR3
            go_wp2_with fail
            refine (busy_calls _ w1.heap.size 1 none v3 (H3.out.kept0 ((Kept.refl _ _).alloc _))).mono ?_
            rintro en w4 ⟨rfl, hw4⟩
            have HX4 := Lib.hid ((Blk.new w3 30 #[.string (strB code), .slice A3 fl.length c3, .slice none 0 0]))
            have HK34 := Lib.hid ((Kept.refl w3 NoB).alloc (.cells #[.string (strB code), .slice A3 fl.length c3, .slice none 0 0] 30))
            rw [← hw4] at HX4 HK34
            have hrd4 := (HRL.out.kept HKR3.out (fun b _ hb e => HAGN.out (e ▸ hb))).kept0 HK34.out
            have HRD4 := Lib.hid (hrd4.alloc (.cells #[] 9))
            have hmade := Row.made0 w4 9 anyB trivial
            have HMADE := Lib.hid hmade
            have HK4 := Lib.hid (HK3.out.trans' HK34.out)
            have hxlt4 := HX4.out.lt
            have hs34 := HK34.out.size
            have hone : ∀ u ∈ strs fl, u.oneCell' = true := fun u hu => by
              unfold strs at hu
              obtain ⟨y, _, rfl⟩ := List.mem_map.1 hu
              rfl
            have HONE := Lib.hid hone
            clear hcell hrd4 hmade hone hw4
            go_wp2_with (at_builtin; refine wpList_appN (W := w4.alloc (.cells #[] 9)) rfl _ _ 22 9 (.string ByteArray.empty) 16 rfl Tryd.underlying22 info_str rfl (by decide) anyB S1 (.slice (some ⟨w4.heap.size, 0, none⟩) 0 0) [] (strs fl) (some ad) fl.length ca rfl rfl HONE.out HMADE.out HRD4.out (fun _ _ => trivial) (by simp only [List.length_nil]; omega) ?_)
            intro v5 w5 hrow5 hk5 hob5

            have hln5 : (strs fl).length = fl.length := strs_length _
            have hkA : Kept w4 w5 (fun k => w4.heap.size ≤ k) := (((Kept.refl w4 _).alloc (.cells #[] 9)).trans hk5 fun b hb => .inr (by
              have : w4.heap.size = b := by simpa [OB, Value.ownBlock] using hb
              omega))
            have HKA := Lib.hid (hkA.trans (T := NoB) (Kept.refl _ _) fun _ hb => hb.elim)
            have HNEW : Hid (∀ k, OB v5 k → w4.heap.size ≤ k) := fun k hk => by
              rcases hob5 k hk with h | h
              · have : w4.heap.size = k := by simpa [OB, Value.ownBlock] using h
                omega
              · omega
            have HK5 := Lib.hid (HK4.out.trans hkA fun b hb => .inr (by have := HK4.out.size; omega))
            have HX5 := Lib.hid (HX4.out.kept hkA (by omega))
            have HROW5 := Lib.hid hrow5
            obtain ⟨A5, c5, rfl, hc5, _⟩ := hrow5.readsN (n := fl.length) hln5
            have HRDL : Hid (Reads w5 S1 (some ad) fl.length (strs fl)) := by
              have h1 := (HRL.out.kept HKR3.out (fun b _ hb e => HAGN.out (e ▸ hb))).kept0 HK34.out
              refine ⟨h1.1, fun hn => ?_⟩
              obtain ⟨ad', e, hs, hlt', hc'⟩ := h1.2 hn
              exact ⟨ad', e, hs, Nat.lt_of_lt_of_le hlt' hkA.size, fun j u hu => hkA.cell (hc' j u hu) (by rw [block_add]; omega)⟩
            have HR5 : Hid (Reads w5 (OB (.slice A3 fl.length c3)) A3 fl.length (strs rl)) := by
              have h1 := HR3.out.kept0 HK34.out
              refine ⟨h1.1, fun hn => ?_⟩
              obtain ⟨ad', e, hs, hlt', hc'⟩ := h1.2 hn
              exact ⟨ad', e, hs, Nat.lt_of_lt_of_le hlt' hkA.size, fun j u hu => hkA.cell (hc' j u hu) (by rw [block_add]; omega)⟩
            clear hrow5 hk5 hob5 hkA
            go_wp2_with fail
            go_loopg [17] (fl.length - 1) (fun gk vk wr' => WkS w5 false code fl (.slice A5 fl.length c5) fl.length gk vk wr')
            case atStart => exact ⟨1, Nat.le_refl _, .inl rfl, fun _ => rfl, rfl, rfl, by rw [wantK_one]; exact HROW5.out, Kept.refl _ _⟩
            case round =>
              obtain ⟨k, hk1, hkN, hkf, hgk2, rfl, hrow, hkr2⟩ := hrel
              have HG2 := Lib.hid hgk2
              have HROW := Lib.hid hrow
              have HKR2 := Lib.hid hkr2
              have HKF := Lib.hid (HK5.out.trans hkr2 fun b hb => .inr (by have := HNEW.out b hb; have := HK4.out.size; omega))
              have HS2 := hkr2.size
              clear hgk2 hrow hkr2
              have hk1e : k = 1 := hkf rfl
              have hx5 := HX5.out.kept HKR2.out (fun e => by have := HNEW.out _ e; omega)
              obtain ⟨x0, x1, x2, _, _, _⟩ := hx5.cells3
              have hxlt := hx5.lt
              have hr5 := HR5.out.kept HKR2.out (fun b hbl hb e => by
                have h1 := HROB.out b hb
                have h2 := HNEW.out b e
                omega)
              have hread := (HROW.out.readsN (n := fl.length) ((strs_length _).trans (wantK_len code fl k)))
              obtain ⟨A6, c6, hv6, hc6, hR6⟩ := hread
              injection hv6 with e1' e2' e3'
              subst e1' e3'
              have heq : rl = wantK code fl k := by
                rw [← HRLE.out, ← HX.out]
                exact (by rw [hk1e, wantK_one]; exact wantF_fin code fl (by have := HLN.out; omega))
              have HEQ := Lib.hid heq
              have HR5' := Lib.hid hr5
              have HR6' := Lib.hid hR6
              clear hx5 hr5 hR6 heq
              go_wp2_with fail
              refine (same_calls _ _ _ A3 A5 fl.length c3 fl.length c5 rl (wantK code fl k) HR5'.out HR6'.out (by omega) (by omega)).mono ?_
              rw [← HEQ.out, decide_self]
              rintro en w9 ⟨rfl, hk9⟩
              have HK9 := Lib.hid (HKF.out.trans' hk9)
              clear hk9
              go_wp2_with fail
              go_ret
              exact ⟨rfl, HK9.out⟩
          · have hie : i = 20 := by omega
            have hst : stepM 1 st s1 = (none, 72, none) := by rw [← HS1.out]; exact HFUL.out hie 32 (.inr rfl)
            have HSTP := Lib.hid hst
            have t20 : (20 : Int) ≤ (i : Int) := by omega
            clear hst hie h20
            go_wp2_with fail
            refine (line_at _ _ 1 st v s1 true _ _ rfl HSTP.out HMK.out (by omega) (hm.kept0 HK0.out) (by decide)).mono ?_
            rintro en w3 ⟨vr, v3, rfl, hr, h3, hk3, ho3, _⟩
            simp only [rpV, Option.getD_none, Option.isSome_none]
            obtain ⟨A3, c3, rfl, _⟩ := hr.readsN (n := 0) rfl
            have H3 := Lib.hid h3
            have HK3 := Lib.hid (HK0.out.trans hk3 fun b hb => .inr (by
              rcases hb with rfl | hb
              · exact hsz1
              · have := HV.out _ hb; have := HKW.out.size; omega))
            clear hr h3 hk3 ho3
            go_wp2_with fail
            refine (busy_calls _ w1.heap.size 1 none v3 (H3.out.kept0 ((Kept.refl _ _).alloc _))).mono ?_
            rintro en w4 ⟨rfl, rfl⟩
            go_wp2_with fail
            go_ret
            exact ⟨rfl, HK3.out.alloc _⟩
        · have tl : ((i : Int) == (fl.length : Int) - 1) = false := by rw [beq_eq_false_iff_ne]; omega
          have e1 : strB code ++ (⟨#[45]⟩ : ByteArray) = strB (code ++ [45]) := strB_app code [45]
          have e2 : strB (code ++ [45]) ++ strB x = strB (code ++ 45 :: x) := by rw [strB_app]; simp
          have l1 : (code ++ 45 :: x).length ≤ 300 := by simp; omega
          have lu1 : (code ++ [45]).length ≤ 4 := by simp; omega
          obtain ⟨s1, hs1⟩ : ∃ s, code ++ 45 :: x = s := ⟨_, rfl⟩
          obtain ⟨u1, hu1⟩ : ∃ s, code ++ [45] = s := ⟨_, rfl⟩
          rw [hu1] at e1 e2 lu1
          rw [hs1] at e2 l1
          have HS1 := Lib.hid hs1
          have z1 : ¬ (9223372036854775807 < code.length + 1) := by omega
          have z2 : ¬ (9223372036854775807 < u1.length + x.length) := by omega
          clear hs1 hu1
          by_cases h20 : i < 20
          · obtain ⟨st', hs1', hs2⟩ := HMORE.out h20
            have hst : stepM 1 st s1 = (none, 0, st') := by rw [← HS1.out]; exact hs1'
            have HSTP := Lib.hid hst
            have HS2 := Lib.hid hs2
            have t20 : ¬ (20 : Int) ≤ (i : Int) := by omega
            have hsome : st'.isSome = true := by
              rcases hs2 with ⟨h, _⟩ | ⟨_, h⟩
              · omega
              · rw [h]; rfl
            have HSOME := Lib.hid hsome
            clear hst hs1' hs2 hsome
            go_wp2_with fail
            refine (line_at _ _ 1 st v s1 true _ _ rfl HSTP.out HMK.out (by omega) (hm.kept0 HK0.out) (by decide)).mono ?_
            rintro en w3 ⟨vr, v3, rfl, hr, h3, hk3, ho3, _⟩
            simp only [rpV, Option.getD_none, Option.isSome_none]
            obtain ⟨A3, c3, rfl, _⟩ := hr.readsN (n := 0) rfl
            have H3 := Lib.hid h3
            have HO3 : Hid (∀ k, OB v3 k → wa.heap.size ≤ k) := fun k hk => (ho3 k hk).elim (HV.out k) fun h => by omega
            have HKR3 := Lib.hid (HKR.out.trans hk3 fun b hb => hb.imp id fun h => HV.out b h)
            clear hr h3 hk3 ho3
            go_wp2_with fail
            refine (busy_calls _ w1.heap.size 1 st' v3 (H3.out.kept0 ((Kept.refl _ _).alloc _))).mono ?_
            rw [HSOME.out]
            rintro en w4 ⟨rfl, rfl⟩
            go_wp2_with fail
            go_roundg (fl.length - (i + 1))
            case measure => have := HG.out; omega
            case rel => exact ⟨i + 1, st', v3, by omega, by omega, rfl, by go_num, HS2.out, H3.out.kept0 ((Kept.refl _ _).alloc _), HO3.out, HKR3.out.alloc _⟩
          · have hie : i = 20 := by omega
            have hst : stepM 1 st s1 = (none, 72, none) := by rw [← HS1.out]; exact HFUL.out hie 45 (.inl rfl)
            have HSTP := Lib.hid hst
            have t20 : (20 : Int) ≤ (i : Int) := by omega
            clear hst hie h20
            go_wp2_with fail
            refine (line_at _ _ 1 st v s1 true _ _ rfl HSTP.out HMK.out (by omega) (hm.kept0 HK0.out) (by decide)).mono ?_
            rintro en w3 ⟨vr, v3, rfl, hr, h3, hk3, ho3, _⟩
            simp only [rpV, Option.getD_none, Option.isSome_none]
            obtain ⟨A3, c3, rfl, _⟩ := hr.readsN (n := 0) rfl
            have H3 := Lib.hid h3
            have HK3 := Lib.hid (HK0.out.trans hk3 fun b hb => .inr (by
              rcases hb with rfl | hb
              · exact hsz1
              · have := HV.out _ hb; have := HKW.out.size; omega))
            clear hr h3 hk3 ho3
            go_wp2_with fail
            refine (busy_calls _ w1.heap.size 1 none v3 (H3.out.kept0 ((Kept.refl _ _).alloc _))).mono ?_
            rintro en w4 ⟨rfl, rfl⟩
            go_wp2_with fail
            go_ret
            exact ⟨rfl, HK3.out.alloc _⟩
      · have ti : ¬ (i : Int) < (fl.length : Int) := by omega
        go_wp2_with fail
        go_ret
        exact ⟨rfl, HK0.out⟩
set_option maxHeartbeats 8000000 in
set_option maxRecDepth 100000 in
theorem back_law_true (w : World) (n0 : Int) (S : Nat → Prop) (A : Option Addr) (n c : Nat) (la : List (List UInt8)) (hA : Reads w S A n (strs la)) (hn : n ≤ 9223372036854775807) (hela : ∀ x ∈ la, x.length ≤ 9223372036854775807) (hm : MaxI w) :
    Calls Tryd.prog 4 #[.int .i64 n0, .slice A n c, .bool true] w fun en w' => en = .returned (.bool true) ∧ Kept w w' NoB := by
  have HA := Lib.hid hA
  have HELA := Lib.hid hela
  obtain ⟨i0, hi0, hz0, hz1, hz2⟩ := info_parts info_str
  obtain ⟨kk, hkk, hkb⟩ := and1023 n0
  have hk1 : (0 : Int) ≤ (kk : Int) := by omega
  obtain ⟨q, hq⟩ : ∃ q, kk % 500 = q := ⟨_, rfl⟩
  have hql : q < 500 := by omega
  have hqI : (kk : Int) % 500 = (q : Int) := by omega
  have HN := Lib.hid (dig3_num ⟨q, hql⟩)
  clear hA hela hq
  go_enter Tryd.func4, Tryd.ntmps4
  go_wp2_with fail
  refine (shown_calls w hm).mono ?_
  rintro en w1 ⟨rfl, hk1'⟩
  have HK1 := Lib.hid hk1'
  have hsz1 := hk1'.size
  clear hk1'
  go_wp2_with fail
  refine (new_calls w1 3).mono ?_
  rintro en w2 ⟨rfl, hw2⟩
  have h2 := MkSt.new w1 3
  rw [← hw2] at h2
  have hk2 : Kept w1 w2 NoB := by rw [hw2]; exact (Kept.refl _ _).alloc _
  have H2 := Lib.hid h2
  have HK2 := Lib.hid (HK1.out.trans' hk2)
  clear hw2 h2 hk2
  go_wp2_with fail
  refine (short_calls w2 S A n c la (HA.out.kept0 HK2.out) hn HELA.out).mono ?_
  rintro en W ⟨va, rfl, hra, hk4⟩
  have HKW := Lib.hid (HK2.out.trans' hk4)
  have hg4 := H2.out.kept0 hk4
  obtain ⟨fl, hfl⟩ : ∃ f, few40 la = f := ⟨_, rfl⟩
  have hfll : fl.length ≤ 40 := by rw [← hfl]; exact few40_len la
  have HFE : Hid (∀ x ∈ fl, x.length ≤ 200) := by rw [← hfl]; exact few40_el la
  rw [hfl] at hra
  have hgb := hg4.blk
  obtain ⟨gcs, hgb⟩ := hgb
  have hagN := ob_far hgb hra
  obtain ⟨A', ca, rfl, hca, hrA⟩ := hra.readsO (n := fl.length) (strs_length fl)
  have hgl := hg4.lt
  have HG4 := Lib.hid hg4
  have HAGN := Lib.hid hagN
  have HRA := Lib.hid hrA
  have HOBL : Hid (∀ b, OB (.slice A' fl.length ca) b → b < W.heap.size) := fun b hb => hra.lt (k := b) hb
  clear hra hk4 hg4 hgb hagN hrA hfl
  by_cases hcut : 30 < fl.length
  · have hci : (30 : Int) < (fl.length : Int) := by omega
    have hrl := HRA.out.take (k := 30) (by omega)
    obtain ⟨l, hl⟩ : ∃ l, fl.take 30 = l := ⟨_, rfl⟩
    have htk : (strs fl).take 30 = strs l := by rw [← hl]; simp [strs, List.map_take]
    rw [htk] at hrl
    have hln : l.length = 30 := by rw [← hl, List.length_take]; omega
    have HLE : Hid (∀ x ∈ l, x.length ≤ 200) := fun x hx => HFE.out x (by rw [← hl] at hx; exact List.mem_of_mem_take hx)
    have HRL := Lib.hid hrl
    have HLN := Lib.hid hln
    obtain ⟨S1, hS1⟩ : ∃ S1, OB (.slice A' fl.length ca) = S1 := ⟨_, rfl⟩
    have HSB : Hid (∀ b, S1 b → b < W.heap.size) := fun b hb => HOBL.out b (by rw [hS1]; exact hb)
    rw [hS1] at HRL HAGN
    clear hcut hl htk hrl hln hS1
    go_wp2_with fail
    refine (digits_calls _ (100 + q) (by omega) (by omega)).mono ?_
    have hcl : (dig3 (100 + q)).length = 3 := rfl
    have hcn : numL (dig3 (100 + q)) = true := HN.out
    obtain ⟨code, hcode⟩ : ∃ x, dig3 (100 + q) = x := ⟨_, rfl⟩
    rw [hcode] at hcl hcn
    rw [hcode]
    rintro en wa ⟨rfl, rfl⟩
    have HCL := Lib.hid hcl
    have HCN := Lib.hid hcn
    have hcl3 : code.length ≤ 3 := by omega
    clear hcode hcl hcn
    have HSLT : Hid (∀ b, S1 b → b < wa.heap.size) := HSB.out
    go_wp2_with fail
    go_loopg [11] 30 (fun gk vi wr => BkS wa w1.heap.size true code l 30 gk vi wr)
    case atStart => exact ⟨0, none, .slice none 0 0, Nat.zero_le _, by omega, rfl, rfl, .inl ⟨rfl, rfl⟩, HG4.out, fun k hk => absurd hk ob_nil, Kept.refl _ _⟩
    case round =>
      obtain ⟨i, st, v, hi, hi20, hgk, rfl, hst, hmk, hv, hkr⟩ := hrel
      have HG := Lib.hid hgk
      have HST := Lib.hid hst
      have HMK := Lib.hid hmk
      have HV := Lib.hid hv
      have HKR := Lib.hid hkr
      have HSR := hkr.size
      have HK0 := Lib.hid (HKW.out.trans hkr fun b hb => .inr (by rw [hb]; exact hsz1))
      clear hgk hst hmk hv hkr hkb hqI hci
      rcases Nat.lt_or_ge i 30 with hlt | hge
      · have hil : i < l.length := by have := HLN.out; omega
        have hrd := HRL.out.kept HKR.out (fun b _ hb e => HAGN.out (e ▸ hb))
        obtain ⟨ad, u, hAd, hu, hcell⟩ := hrd.at_ hlt
        subst hAd
        rw [strs_at l i hil] at hu
        injection hu with hu
        subst hu
        have hxl := HLE.out l[i] (List.getElem_mem hil)
        have hmore := fun h20 : i < 20 => back_more HCL.out HCN.out HST.out hil h20
        have hlst := fun h20 : i < 20 => back_last HCL.out HCN.out HST.out hil h20
        have hful : i = 20 → ∀ b : UInt8, (b = 45 ∨ b = 32) → stepM (prF true) st (code ++ b :: l[i]) = (none, 72, none) := fun h b hb => by
          subst h
          exact back_full HCL.out HCN.out HST.out hil hb
        obtain ⟨x, hx⟩ : ∃ x, l[i] = x := ⟨_, rfl⟩
        rw [hx] at hcell hxl
        simp only [hx] at hmore hlst hful
        have HX := Lib.hid hx
        have HMORE := Lib.hid hmore
        have HLST := Lib.hid hlst
        have HFUL := Lib.hid hful
        clear hx hrd hmore hlst hful
        have ti : (i : Int) < 30 := by omega
        by_cases hlast : i + 1 = 30
        · exact absurd hlast (by omega)
        · have tl : ((i : Int) == 29) = false := by rw [beq_eq_false_iff_ne]; omega
          have e1 : strB code ++ (⟨#[45]⟩ : ByteArray) = strB (code ++ [45]) := strB_app code [45]
          have e2 : strB (code ++ [45]) ++ strB x = strB (code ++ 45 :: x) := by rw [strB_app]; simp
          have l1 : (code ++ 45 :: x).length ≤ 300 := by simp; omega
          have lu1 : (code ++ [45]).length ≤ 4 := by simp; omega
          obtain ⟨s1, hs1⟩ : ∃ s, code ++ 45 :: x = s := ⟨_, rfl⟩
          obtain ⟨u1, hu1⟩ : ∃ s, code ++ [45] = s := ⟨_, rfl⟩
          rw [hu1] at e1 e2 lu1
          rw [hs1] at e2 l1
          have HS1 := Lib.hid hs1
          have z1 : ¬ (9223372036854775807 < code.length + 1) := by omega
          have z2 : ¬ (9223372036854775807 < u1.length + x.length) := by omega
          clear hs1 hu1
          by_cases h20 : i < 20
          · obtain ⟨st', hs1', hs2⟩ := HMORE.out h20
            have hst : stepM 3 st s1 = (none, 0, st') := by rw [← HS1.out]; exact hs1'
            have HSTP := Lib.hid hst
            have HS2 := Lib.hid hs2
            have t20 : ¬ (20 : Int) ≤ (i : Int) := by omega
            have hsome : st'.isSome = true := by
              rcases hs2 with ⟨h, _⟩ | ⟨_, h⟩
              · omega
              · rw [h]; rfl
            have HSOME := Lib.hid hsome
            clear hst hs1' hs2 hsome
            go_wp2_with fail
            refine (line_at _ _ 3 st v s1 true _ _ rfl HSTP.out HMK.out (by omega) (hm.kept0 HK0.out) (by decide)).mono ?_
            rintro en w3 ⟨vr, v3, rfl, hr, h3, hk3, ho3, _⟩
            simp only [rpV, Option.getD_none, Option.isSome_none]
            obtain ⟨A3, c3, rfl, _⟩ := hr.readsN (n := 0) rfl
            have H3 := Lib.hid h3
            have HO3 : Hid (∀ k, OB v3 k → wa.heap.size ≤ k) := fun k hk => (ho3 k hk).elim (HV.out k) fun h => by omega
            have HKR3 := Lib.hid (HKR.out.trans hk3 fun b hb => hb.imp id fun h => HV.out b h)
            clear hr h3 hk3 ho3
            go_wp2_with fail
            refine (busy_calls _ w1.heap.size 3 st' v3 (H3.out.kept0 ((Kept.refl _ _).alloc _))).mono ?_
            rw [HSOME.out]
            rintro en w4 ⟨rfl, rfl⟩
            go_wp2_with fail
            go_roundg (30 - (i + 1))
            case measure => have := HG.out; omega
            case rel => exact ⟨i + 1, st', v3, by omega, by omega, rfl, by go_num, HS2.out, H3.out.kept0 ((Kept.refl _ _).alloc _), HO3.out, HKR3.out.alloc _⟩
          · have hie : i = 20 := by omega
            have hst : stepM 3 st s1 = (none, 72, none) := by rw [← HS1.out]; exact HFUL.out hie 45 (.inl rfl)
            have HSTP := Lib.hid hst
            have t20 : (20 : Int) ≤ (i : Int) := by omega
            clear hst hie h20
            go_wp2_with fail
            refine (line_at _ _ 3 st v s1 true _ _ rfl HSTP.out HMK.out (by omega) (hm.kept0 HK0.out) (by decide)).mono ?_
            rintro en w3 ⟨vr, v3, rfl, hr, h3, hk3, ho3, _⟩
            simp only [rpV, Option.getD_none, Option.isSome_none]
            obtain ⟨A3, c3, rfl, _⟩ := hr.readsN (n := 0) rfl
            have H3 := Lib.hid h3
            have HK3 := Lib.hid (HK0.out.trans hk3 fun b hb => .inr (by
              rcases hb with rfl | hb
              · exact hsz1
              · have := HV.out _ hb; have := HKW.out.size; omega))
            clear hr h3 hk3 ho3
            go_wp2_with fail
            refine (busy_calls _ w1.heap.size 3 none v3 (H3.out.kept0 ((Kept.refl _ _).alloc _))).mono ?_
            rintro en w4 ⟨rfl, rfl⟩
            go_wp2_with fail
            go_ret
            exact ⟨rfl, HK3.out.alloc _⟩
      · have ti : ¬ (i : Int) < 30 := by omega
        go_wp2_with fail
        go_ret
        exact ⟨rfl, HK0.out⟩
  · have hci : ¬ (30 : Int) < (fl.length : Int) := by omega
    obtain ⟨S1, hS1⟩ : ∃ S1, OB (.slice A' fl.length ca) = S1 := ⟨_, rfl⟩
    have HSB : Hid (∀ b, S1 b → b < W.heap.size) := fun b hb => HOBL.out b (by rw [hS1]; exact hb)
    have HLE := HFE
    have HRL := HRA
    rw [hS1] at HRL HAGN
    obtain ⟨l, hl⟩ : ∃ l, fl = l := ⟨_, rfl⟩
    subst hl
    have hfl30 : fl.length ≤ 30 := by omega
    have HLN : Hid (fl.length = fl.length) := rfl
    clear hcut hS1
    go_wp2_with fail
    refine (digits_calls _ (100 + q) (by omega) (by omega)).mono ?_
    have hcl : (dig3 (100 + q)).length = 3 := rfl
    have hcn : numL (dig3 (100 + q)) = true := HN.out
    obtain ⟨code, hcode⟩ : ∃ x, dig3 (100 + q) = x := ⟨_, rfl⟩
    rw [hcode] at hcl hcn
    rw [hcode]
    rintro en wa ⟨rfl, rfl⟩
    have HCL := Lib.hid hcl
    have HCN := Lib.hid hcn
    have hcl3 : code.length ≤ 3 := by omega
    clear hcode hcl hcn
    have HSLT : Hid (∀ b, S1 b → b < wa.heap.size) := HSB.out
    go_wp2_with fail
    go_loopg [11] fl.length (fun gk vi wr => BkS wa w1.heap.size true code fl fl.length gk vi wr)
    case atStart => exact ⟨0, none, .slice none 0 0, Nat.zero_le _, by omega, rfl, rfl, .inl ⟨rfl, rfl⟩, HG4.out, fun k hk => absurd hk ob_nil, Kept.refl _ _⟩
    case round =>
      obtain ⟨i, st, v, hi, hi20, hgk, rfl, hst, hmk, hv, hkr⟩ := hrel
      have HG := Lib.hid hgk
      have HST := Lib.hid hst
      have HMK := Lib.hid hmk
      have HV := Lib.hid hv
      have HKR := Lib.hid hkr
      have HSR := hkr.size
      have HK0 := Lib.hid (HKW.out.trans hkr fun b hb => .inr (by rw [hb]; exact hsz1))
      clear hgk hst hmk hv hkr hkb hqI hci
      rcases Nat.lt_or_ge i fl.length with hlt | hge
      · have hil : i < fl.length := by have := HLN.out; omega
        have hrd := HRL.out.kept HKR.out (fun b _ hb e => HAGN.out (e ▸ hb))
        obtain ⟨ad, u, hAd, hu, hcell⟩ := hrd.at_ hlt
        subst hAd
        rw [strs_at fl i hil] at hu
        injection hu with hu
        subst hu
        have hxl := HLE.out fl[i] (List.getElem_mem hil)
        have hmore := fun h20 : i < 20 => back_more HCL.out HCN.out HST.out hil h20
        have hlst := fun h20 : i < 20 => back_last HCL.out HCN.out HST.out hil h20
        have hful : i = 20 → ∀ b : UInt8, (b = 45 ∨ b = 32) → stepM (prF true) st (code ++ b :: fl[i]) = (none, 72, none) := fun h b hb => by
          subst h
          exact back_full HCL.out HCN.out HST.out hil hb
        obtain ⟨x, hx⟩ : ∃ x, fl[i] = x := ⟨_, rfl⟩
        rw [hx] at hcell hxl
        simp only [hx] at hmore hlst hful
        have HX := Lib.hid hx
        have HMORE := Lib.hid hmore
        have HLST := Lib.hid hlst
        have HFUL := Lib.hid hful
        clear hx hrd hmore hlst hful
        have ti : (i : Int) < (fl.length : Int) := by omega
        by_cases hlast : i + 1 = fl.length
        · have tl : ((i : Int) == (fl.length : Int) - 1) = true := by rw [beq_iff_eq]; omega
          have e1 : strB code ++ (⟨#[32]⟩ : ByteArray) = strB (code ++ [32]) := strB_app code [32]
          have e2 : strB (code ++ [32]) ++ strB x = strB (code ++ 32 :: x) := by rw [strB_app]; simp
          have l1 : (code ++ 32 :: x).length ≤ 300 := by simp; omega
          have lu1 : (code ++ [32]).length ≤ 4 := by simp; omega
          obtain ⟨s1, hs1⟩ : ∃ s, code ++ 32 :: x = s := ⟨_, rfl⟩
          obtain ⟨u1, hu1⟩ : ∃ s, code ++ [32] = s := ⟨_, rfl⟩
          rw [hu1] at e1 e2 lu1
          rw [hs1] at e2 l1
          have HS1 := Lib.hid hs1
          have z1 : ¬ (9223372036854775807 < code.length + 1) := by omega
          have z2 : ¬ (9223372036854775807 < u1.length + x.length) := by omega
          clear hs1 hu1
          by_cases h20 : i < 20
          · have hst : stepM 3 st s1 = (some (code, wantB true code fl i ++ [x]), 0, none) := by rw [← HS1.out]; exact HLST.out h20
            have HSTP := Lib.hid hst
            have t20 : ¬ (20 : Int) ≤ (i : Int) := by omega
            have hwl : (wantB true code fl i ++ [x]).length = fl.length := by
              rw [List.length_append, wantB_len true code fl (by have := HLN.out; omega)]
              exact hlast
            obtain ⟨rl, hrl⟩ : ∃ r, wantB true code fl i ++ [x] = r := ⟨_, rfl⟩
            rw [hrl] at HSTP hwl
            have HRLE := Lib.hid hrl
            have HWL := Lib.hid hwl
            clear hst hrl hwl
            go_wp2_with fail
            refine (line_at _ _ 3 st v s1 true _ _ rfl HSTP.out HMK.out (by omega) (hm.kept0 HK0.out) (by decide)).mono ?_
            rintro en w3 ⟨vr, v3, rfl, hr, h3, hk3, ho3, _⟩
            simp only [rpV, Option.getD_some, Option.isSome_some] at hr ⊢
            obtain ⟨A3, c3, rfl, hc3, hR3⟩ := hr.readsO (n := fl.length) (by rw [strs_length]; exact HWL.out)
            have H3 := Lib.hid h3
            have HR3 := Lib.hid hR3
            have HROB : Hid (∀ k, OB (.slice A3 fl.length c3) k → k < w3.heap.size) := fun k hk => hr.lt (k := k) hk
            have HKR3 := Lib.hid (HKR.out.trans hk3 fun b hb => hb.imp id fun h => HV.out b h)
            have HK3 := Lib.hid (HK0.out.trans hk3 fun b hb => .inr (by
              rcases hb with rfl | hb
              · exact hsz1
              · have := HV.out _ hb; have := HKW.out.size; omega))
            have hs3 := hk3.size
            clear hr h3 hk3 ho3 hR3
            go_wp2_with fail
            refine (busy_calls _ w1.heap.size 3 none v3 (H3.out.kept0 ((Kept.refl _ _).alloc _))).mono ?_
            rintro en w4 ⟨rfl, hw4⟩
            have HX4 := Lib.hid ((Blk.new w3 30 #[.string (strB code), .slice A3 fl.length c3, .slice none 0 0]))
            have HK34 := Lib.hid ((Kept.refl w3 NoB).alloc (.cells #[.string (strB code), .slice A3 fl.length c3, .slice none 0 0] 30))
            rw [← hw4] at HX4 HK34
            have hrd4 := (HRL.out.kept HKR3.out (fun b _ hb e => HAGN.out (e ▸ hb))).kept0 HK34.out
            have HRD4 := Lib.hid (hrd4.alloc (.cells #[] 9))
            have hmade := Row.made0 w4 9 anyB trivial
            have HMADE := Lib.hid hmade
            have HK4 := Lib.hid (HK3.out.trans' HK34.out)
            have hxlt4 := HX4.out.lt
            have hs34 := HK34.out.size
            have hone : ∀ u ∈ strs fl, u.oneCell' = true := fun u hu => by
              unfold strs at hu
              obtain ⟨y, _, rfl⟩ := List.mem_map.1 hu
              rfl
            have HONE := Lib.hid hone
            clear hcell hrd4 hmade hone hw4
            go_wp2_with (at_builtin; refine wpList_appN (W := w4.alloc (.cells #[] 9)) rfl _ _ 22 9 (.string ByteArray.empty) 16 rfl Tryd.underlying22 info_str rfl (by decide) anyB S1 (.slice (some ⟨w4.heap.size, 0, none⟩) 0 0) [] (strs fl) (some ad) fl.length ca rfl rfl HONE.out HMADE.out HRD4.out (fun _ _ => trivial) (by simp only [List.length_nil]; omega) ?_)
            intro v5 w5 hrow5 hk5 hob5

            have hln5 : (strs fl).length = fl.length := strs_length _
            have hkA : Kept w4 w5 (fun k => w4.heap.size ≤ k) := (((Kept.refl w4 _).alloc (.cells #[] 9)).trans hk5 fun b hb => .inr (by
              have : w4.heap.size = b := by simpa [OB, Value.ownBlock] using hb
              omega))
            have HKA := Lib.hid (hkA.trans (T := NoB) (Kept.refl _ _) fun _ hb => hb.elim)
            have HNEW : Hid (∀ k, OB v5 k → w4.heap.size ≤ k) := fun k hk => by
              rcases hob5 k hk with h | h
              · have : w4.heap.size = k := by simpa [OB, Value.ownBlock] using h
                omega
              · omega
            have HK5 := Lib.hid (HK4.out.trans hkA fun b hb => .inr (by have := HK4.out.size; omega))
            have HX5 := Lib.hid (HX4.out.kept hkA (by omega))
            have HROW5 := Lib.hid hrow5
            obtain ⟨A5, c5, rfl, hc5, _⟩ := hrow5.readsN (n := fl.length) hln5
            have HRDL : Hid (Reads w5 S1 (some ad) fl.length (strs fl)) := by
              have h1 := (HRL.out.kept HKR3.out (fun b _ hb e => HAGN.out (e ▸ hb))).kept0 HK34.out
              refine ⟨h1.1, fun hn => ?_⟩
              obtain ⟨ad', e, hs, hlt', hc'⟩ := h1.2 hn
              exact ⟨ad', e, hs, Nat.lt_of_lt_of_le hlt' hkA.size, fun j u hu => hkA.cell (hc' j u hu) (by rw [block_add]; omega)⟩
            have HR5 : Hid (Reads w5 (OB (.slice A3 fl.length c3)) A3 fl.length (strs rl)) := by
              have h1 := HR3.out.kept0 HK34.out
              refine ⟨h1.1, fun hn => ?_⟩
              obtain ⟨ad', e, hs, hlt', hc'⟩ := h1.2 hn
              exact ⟨ad', e, hs, Nat.lt_of_lt_of_le hlt' hkA.size, fun j u hu => hkA.cell (hc' j u hu) (by rw [block_add]; omega)⟩
            clear hrow5 hk5 hob5 hkA
            go_wp2_with fail
            go_loopg [17] (fl.length - 1) (fun gk vk wr' => WkS w5 true code fl (.slice A5 fl.length c5) fl.length gk vk wr')
            case atStart => exact ⟨1, Nat.le_refl _, .inl rfl, fun _ => rfl, rfl, rfl, by rw [wantK_one]; exact HROW5.out, Kept.refl _ _⟩
            case round =>
              obtain ⟨k, hk1, hkN, hkf, hgk2, rfl, hrow, hkr2⟩ := hrel
              have HG2 := Lib.hid hgk2
              have HROW := Lib.hid hrow
              have HKR2 := Lib.hid hkr2
              have HKF := Lib.hid (HK5.out.trans hkr2 fun b hb => .inr (by have := HNEW.out b hb; have := HK4.out.size; omega))
              have HS2 := hkr2.size
              clear hgk2 hrow hkr2
              by_cases hgo : k < i
              · have hkl : k < fl.length := by have := HLN.out; omega
                have tk : (k : Int) < (fl.length : Int) - 1 := by omega
                have hrd2 := HRDL.out.kept HKR2.out (fun b hbl hb e => by
                  have h2 := HNEW.out b e
                  obtain ⟨_, e', hs, hb', _⟩ := HRL.out.2 (by omega)
                  exact absurd (HNEW.out b e) (by
                    have := HSLT.out b hb
                    omega))
                obtain ⟨ad2, u2, hAd2, hu2, hcell2⟩ := hrd2.at_ (k := k) (by omega)
                injection hAd2 with hAd2
                subst hAd2
                rw [strs_at fl k hkl] at hu2
                injection hu2 with hu2
                subst hu2
                have hyl := HLE.out fl[k] (List.getElem_mem hkl)
                have hws := wantK_succ code fl hk1 hkl
                obtain ⟨y, hy⟩ : ∃ y, fl[k] = y := ⟨_, rfl⟩
                rw [hy] at hcell2 hyl hws
                have f1 : strB code ++ (⟨#[45]⟩ : ByteArray) = strB (code ++ [45]) := strB_app code [45]
                have f2 : strB (code ++ [45]) ++ strB y = strB (code ++ 45 :: y) := by rw [strB_app]; simp
                have lf : (code ++ [45]).length ≤ 4 := by simp; omega
                obtain ⟨g7, c7, hv7, hc7, _, hg7, hob7, ⟨u7, hu7⟩, hf7, hrow7⟩ := HROW.out.store (k := k) (by rw [wantK_len]; exact hkl) (code ++ 45 :: y)
                rw [← hws] at hrow7
                injection hv7 with e1' e2' e3'
                subst e1'
                have HROW7 := Lib.hid hrow7
                have HK7 := Lib.hid (HKR2.out.setCell (p := ⟨g7, k, none⟩) (.inl hob7) (.string (strB (code ++ 45 :: y))))
                obtain ⟨f3, hf3⟩ : ∃ s, code ++ [45] = s := ⟨_, rfl⟩
                obtain ⟨f4, hf4⟩ : ∃ s, code ++ 45 :: y = s := ⟨_, rfl⟩
                rw [hf3] at f1 f2 lf
                rw [hf4] at f2 HROW7 HK7
                have z5 : ¬ (9223372036854775807 < f3.length + y.length) := by omega
                clear hy hws hrd2 hrow7 hf3 hf4
                go_wp2_with fail
                go_roundg (fl.length - (k + 1))
                case measure => have := HG2.out; omega
                case rel => exact ⟨k + 1, by omega, .inr (by omega), fun e => (by cases e), rfl, by go_num, HROW7.out, HK7.out⟩
              · have tk : ¬ (k : Int) < (fl.length : Int) - 1 := by omega
                have hx5 := HX5.out.kept HKR2.out (fun e => by have := HNEW.out _ e; omega)
                obtain ⟨x0, x1, x2, _, _, _⟩ := hx5.cells3
                have hxlt := hx5.lt
                have hr5 := HR5.out.kept HKR2.out (fun b hbl hb e => by
                  have h1 := HROB.out b hb
                  have h2 := HNEW.out b e
                  omega)
                have hread := (HROW.out.readsN (n := fl.length) ((strs_length _).trans (wantK_len code fl k)))
                obtain ⟨A6, c6, hv6, hc6, hR6⟩ := hread
                injection hv6 with e1' e2' e3'
                subst e1' e3'
                have heq : rl = wantK code fl k := by
                  rw [← HRLE.out, ← HX.out]
                  exact wantK_fin code fl (by have := HLN.out; omega) (by omega) (by omega)
                have HEQ := Lib.hid heq
                have HR5' := Lib.hid hr5
                have HR6' := Lib.hid hR6
                clear hx5 hr5 hR6 heq
                go_wp2_with fail
                refine (same_calls _ _ _ A3 A5 fl.length c3 fl.length c5 rl (wantK code fl k) HR5'.out HR6'.out (by omega) (by omega)).mono ?_
                rw [← HEQ.out, decide_self]
                rintro en w9 ⟨rfl, hk9⟩
                have HK9 := Lib.hid (HKF.out.trans' hk9)
                clear hk9
                go_wp2_with fail
                go_ret
                exact ⟨rfl, HK9.out⟩
          · have hie : i = 20 := by omega
            have hst : stepM 3 st s1 = (none, 72, none) := by rw [← HS1.out]; exact HFUL.out hie 32 (.inr rfl)
            have HSTP := Lib.hid hst
            have t20 : (20 : Int) ≤ (i : Int) := by omega
            clear hst hie h20
            go_wp2_with fail
            refine (line_at _ _ 3 st v s1 true _ _ rfl HSTP.out HMK.out (by omega) (hm.kept0 HK0.out) (by decide)).mono ?_
            rintro en w3 ⟨vr, v3, rfl, hr, h3, hk3, ho3, _⟩
            simp only [rpV, Option.getD_none, Option.isSome_none]
            obtain ⟨A3, c3, rfl, _⟩ := hr.readsN (n := 0) rfl
            have H3 := Lib.hid h3
            have HK3 := Lib.hid (HK0.out.trans hk3 fun b hb => .inr (by
              rcases hb with rfl | hb
              · exact hsz1
              · have := HV.out _ hb; have := HKW.out.size; omega))
            clear hr h3 hk3 ho3
            go_wp2_with fail
            refine (busy_calls _ w1.heap.size 3 none v3 (H3.out.kept0 ((Kept.refl _ _).alloc _))).mono ?_
            rintro en w4 ⟨rfl, rfl⟩
            go_wp2_with fail
            go_ret
            exact ⟨rfl, HK3.out.alloc _⟩
        · have tl : ((i : Int) == (fl.length : Int) - 1) = false := by rw [beq_eq_false_iff_ne]; omega
          have e1 : strB code ++ (⟨#[45]⟩ : ByteArray) = strB (code ++ [45]) := strB_app code [45]
          have e2 : strB (code ++ [45]) ++ strB x = strB (code ++ 45 :: x) := by rw [strB_app]; simp
          have l1 : (code ++ 45 :: x).length ≤ 300 := by simp; omega
          have lu1 : (code ++ [45]).length ≤ 4 := by simp; omega
          obtain ⟨s1, hs1⟩ : ∃ s, code ++ 45 :: x = s := ⟨_, rfl⟩
          obtain ⟨u1, hu1⟩ : ∃ s, code ++ [45] = s := ⟨_, rfl⟩
          rw [hu1] at e1 e2 lu1
          rw [hs1] at e2 l1
          have HS1 := Lib.hid hs1
          have z1 : ¬ (9223372036854775807 < code.length + 1) := by omega
          have z2 : ¬ (9223372036854775807 < u1.length + x.length) := by omega
          clear hs1 hu1
          by_cases h20 : i < 20
          · obtain ⟨st', hs1', hs2⟩ := HMORE.out h20
            have hst : stepM 3 st s1 = (none, 0, st') := by rw [← HS1.out]; exact hs1'
            have HSTP := Lib.hid hst
            have HS2 := Lib.hid hs2
            have t20 : ¬ (20 : Int) ≤ (i : Int) := by omega
            have hsome : st'.isSome = true := by
              rcases hs2 with ⟨h, _⟩ | ⟨_, h⟩
              · omega
              · rw [h]; rfl
            have HSOME := Lib.hid hsome
            clear hst hs1' hs2 hsome
            go_wp2_with fail
            refine (line_at _ _ 3 st v s1 true _ _ rfl HSTP.out HMK.out (by omega) (hm.kept0 HK0.out) (by decide)).mono ?_
            rintro en w3 ⟨vr, v3, rfl, hr, h3, hk3, ho3, _⟩
            simp only [rpV, Option.getD_none, Option.isSome_none]
            obtain ⟨A3, c3, rfl, _⟩ := hr.readsN (n := 0) rfl
            have H3 := Lib.hid h3
            have HO3 : Hid (∀ k, OB v3 k → wa.heap.size ≤ k) := fun k hk => (ho3 k hk).elim (HV.out k) fun h => by omega
            have HKR3 := Lib.hid (HKR.out.trans hk3 fun b hb => hb.imp id fun h => HV.out b h)
            clear hr h3 hk3 ho3
            go_wp2_with fail
            refine (busy_calls _ w1.heap.size 3 st' v3 (H3.out.kept0 ((Kept.refl _ _).alloc _))).mono ?_
            rw [HSOME.out]
            rintro en w4 ⟨rfl, rfl⟩
            go_wp2_with fail
            go_roundg (fl.length - (i + 1))
            case measure => have := HG.out; omega
            case rel => exact ⟨i + 1, st', v3, by omega, by omega, rfl, by go_num, HS2.out, H3.out.kept0 ((Kept.refl _ _).alloc _), HO3.out, HKR3.out.alloc _⟩
          · have hie : i = 20 := by omega
            have hst : stepM 3 st s1 = (none, 72, none) := by rw [← HS1.out]; exact HFUL.out hie 45 (.inl rfl)
            have HSTP := Lib.hid hst
            have t20 : (20 : Int) ≤ (i : Int) := by omega
            clear hst hie h20
            go_wp2_with fail
            refine (line_at _ _ 3 st v s1 true _ _ rfl HSTP.out HMK.out (by omega) (hm.kept0 HK0.out) (by decide)).mono ?_
            rintro en w3 ⟨vr, v3, rfl, hr, h3, hk3, ho3, _⟩
            simp only [rpV, Option.getD_none, Option.isSome_none]
            obtain ⟨A3, c3, rfl, _⟩ := hr.readsN (n := 0) rfl
            have H3 := Lib.hid h3
            have HK3 := Lib.hid (HK0.out.trans hk3 fun b hb => .inr (by
              rcases hb with rfl | hb
              · exact hsz1
              · have := HV.out _ hb; have := HKW.out.size; omega))
            clear hr h3 hk3 ho3
            go_wp2_with fail
            refine (busy_calls _ w1.heap.size 3 none v3 (H3.out.kept0 ((Kept.refl _ _).alloc _))).mono ?_
            rintro en w4 ⟨rfl, rfl⟩
            go_wp2_with fail
            go_ret
            exact ⟨rfl, HK3.out.alloc _⟩
      · have ti : ¬ (i : Int) < (fl.length : Int) := by omega
        go_wp2_with fail
        go_ret
        exact ⟨rfl, HK0.out⟩
theorem replyBack_walk (W : World) (a0 : Int) (a1 : Option Addr) (len1 cap1 : Nat) (z1 : List ByteArray) (a2 : Bool) (w0 : (Lit.int .i64 a0).wf = true) (w1 : IsStrs W a1 len1 cap1 z1) (hsh : W.ShapedOpen Tryd.prog) :
    Calls Tryd.prog 4 #[.int .i64 a0, .slice a1 len1 cap1, .bool a2] W fun en w' => en = .returned (.bool true) ∧ Below W.heap.size W w' := by
  obtain ⟨hr1, hc1, hl1, hs1⟩ := w1.reads
  have e : ∀ zs : List ByteArray, zs.map Value.string = strs (zs.map fun s => s.data.toList) := fun zs => by
    unfold strs
    rw [List.map_map]
    exact List.map_congr_left fun s _ => by simp [strB_data]
  have el : ∀ zs : List ByteArray, (∀ s ∈ zs, s.size ≤ maxLen) → ∀ x ∈ zs.map (fun s => s.data.toList), x.length ≤ 9223372036854775807 := fun zs h x hx => by
    obtain ⟨s, hs, rfl⟩ := List.mem_map.1 hx
    have := h s hs
    unfold maxLen at this
    rw [Array.length_toList]
    exact this
  rw [e] at hr1
  have hm := MaxI.of_shape hsh
  cases a2
  · exact (back_law_false W a0 _ a1 len1 cap1 _ hr1 w1.len_le (el _ hs1) hm).mono fun _ _ ⟨he, hk⟩ => ⟨he, hk.below⟩
  · exact (back_law_true W a0 _ a1 len1 cap1 _ hr1 w1.len_le (el _ hs1) hm).mono fun _ _ ⟨he, hk⟩ => ⟨he, hk.below⟩
end Go.Proofs.YtamemddgajmimaaDoor
