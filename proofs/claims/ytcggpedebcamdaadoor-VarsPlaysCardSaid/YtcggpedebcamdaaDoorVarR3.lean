/- Variables: the reference's Names, Set, Get, Expand: what they compute. -/
import Derived.Test.YtcggpedebcamdaaDoorVarR2
set_option linter.unusedVariables false
set_option linter.unusedSimpArgs false
namespace Go.Proofs.YtcggpedebcamdaaDoor
open Go.RowKit Go.Shelf Go.Lib

theorem strs_oneR (l : List (List UInt8)) : ∀ u ∈ strs l, u.oneCell' = true := by
  intro u hu
  obtain ⟨x, _, rfl⟩ := List.mem_map.1 hu
  rfl
theorem partsM_len : ∀ (t : List UInt8) (md : Mode) (l : List Part), partsM md t = some l → l.length ≤ 2 * t.length + (match md with | .n => 0 | .s => 0 | .m _ => 1) := by
  intro t
  induction t with
  | nil =>
    intro md l h
    cases md with
    | n => simp [partsM] at h; subst h; simp
    | s => simp [partsM] at h
    | m nm => simp [partsM] at h; subst h; simp
  | cons c t ih =>
    intro md l h
    rw [List.length_cons]
    cases md with
    | n =>
      rw [partsM] at h
      split at h
      · have := ih _ _ h
        simp only at this ⊢
        omega
      · obtain ⟨l', h1, h2⟩ := Option.map_eq_some_iff.1 h
        have := ih _ _ h1
        subst h2
        simp only [List.length_cons] at this ⊢
        omega
    | s =>
      rw [partsM] at h
      split at h
      · have := ih _ _ h
        simp only at this ⊢
        omega
      · split at h
        · obtain ⟨l', h1, h2⟩ := Option.map_eq_some_iff.1 h
          have := ih _ _ h1
          subst h2
          simp only [List.length_cons] at this ⊢
          omega
        · cases h
    | m nm =>
      rw [partsM] at h
      split at h
      · have := ih _ _ h
        simp only at this ⊢
        omega
      · split at h
        · obtain ⟨l', h1, h2⟩ := Option.map_eq_some_iff.1 h
          have := ih _ _ h1
          subst h2
          simp only [List.length_cons] at this ⊢
          omega
        · obtain ⟨l', h1, h2⟩ := Option.map_eq_some_iff.1 h
          have := ih _ _ h1
          subst h2
          simp only [List.length_cons] at this ⊢
          omega
theorem parts_lenD {t : List UInt8} {o : Option (List Part)} (h : partsL t = o) : (o.getD []).length ≤ 2 * t.length := by
  cases o with
  | none => simp
  | some l => exact partsM_len t .n l h
def NmS (w0 : World) (l : List Part) (gk : Nat) (v6 v7 : Value) (wr : World) : Prop :=
  ∃ i, i ≤ l.length ∧ gk = l.length - i ∧ v7 = .int .i64 (i : Int) ∧ Row wr 9 (fun k => w0.heap.size ≤ k) v6 (strs (namesP (l.take i))) ∧ Kept w0 wr NoB
theorem names_snoc {l : List Part} {i : Nat} (h : i < l.length) : namesP (l.take (i + 1)) = namesP (l.take i) ++ if l[i].2 then [l[i].1] else [] := by
  rw [List.take_succ_eq_append_getElem h, namesP_app]
  congr 1
  obtain ⟨x, hx⟩ : ∃ x, l[i] = x := ⟨_, rfl⟩
  rw [hx]
  obtain ⟨a, b⟩ := x
  cases b <;> rfl
set_option maxHeartbeats 2000000 in
set_option maxRecDepth 100000 in
theorem refNames_calls (w : World) (t : List UInt8) (hl : t.length ≤ 1000000) (nl : Option (List (List UInt8))) (hn : namesL t = nl) :
    Calls Tryd.prog 18 #[.string (strB t)] w fun en w' => ∃ v, en = .returned (.tuple #[v, .bool nl.isSome]) ∧ Row w' 9 (fun k => w.heap.size ≤ k) v (strs (nl.getD [])) ∧ Kept w w' NoB := by
  obtain ⟨pl, hpl⟩ : ∃ pl, partsL t = pl := ⟨_, rfl⟩
  have hlen := parts_lenD hpl
  have hnl : nl.getD [] = namesP (pl.getD []) := by
    rw [← hn, namesL, hpl]
    cases pl <;> rfl
  have hns : nl.isSome = pl.isSome := by
    rw [← hn, namesL, hpl]
    cases pl <;> rfl
  rw [hnl, hns]
  clear hn hnl hns
  have HPL := Lib.hid hpl
  clear hpl
  go_enter Tryd.func18, Tryd.ntmps18
  go_wp2_with fail
  refine (refParts_calls w t hl pl HPL.out).mono ?_
  rintro en w1 ⟨v, rfl, hrow, hk1⟩
  obtain ⟨l, hl2⟩ : ∃ l, pl.getD [] = l := ⟨_, rfl⟩
  obtain ⟨q, hq⟩ : ∃ q, pl.isSome = q := ⟨_, rfl⟩
  rw [hl2] at hrow hlen
  obtain ⟨A, c, rfl, hP⟩ := hrow.part
  have HP := Lib.hid hP
  have HK1 := Lib.hid hk1
  have HL2 := Lib.hid hl2
  have HQ := Lib.hid hq
  rw [hq]
  clear hrow hk1 hP hl2 hq
  go_wp2_with fail
  go_loopg [6, 7] l.length (fun gk v6 v7 wr => NmS w1 l gk v6 v7 wr)
  case atStart => exact ⟨0, Nat.zero_le _, rfl, rfl, (Row.made0 w1 9 (fun k => w1.heap.size ≤ k) (Nat.le_refl _)), (Kept.refl _ _).alloc _⟩
  case round =>
    obtain ⟨i, hi, hgk, rfl, hr, hkr⟩ := hrel
    have HG := Lib.hid hgk
    have HKR := Lib.hid hkr
    have HR := Lib.hid hr
    have hws := hkr.size
    clear hgk hkr hr
    rcases Nat.lt_or_ge i l.length with hlt | hge
    · obtain ⟨ad, hA, hb, c0, c1⟩ := (HP.out.kept0 HKR.out).2 i hlt
      subst hA
      have hsn := names_snoc hlt
      obtain ⟨x, hx⟩ : ∃ x, l[i] = x := ⟨_, rfl⟩
      rw [hx] at c0 c1 hsn
      obtain ⟨s, b⟩ := x
      simp only at c0 c1 hsn
      have HSN := Lib.hid hsn
      obtain ⟨out, hout⟩ : ∃ o, namesP (l.take i) = o := ⟨_, rfl⟩
      rw [hout] at HR HSN
      have hol : out.length ≤ 4000000 := by
        have h1 := names_len (l.take i)
        rw [← hout]
        unfold namesP
        rw [List.length_map]
        have := List.length_filter_le (fun x : Part => x.2) (l.take i)
        rw [List.length_take] at this
        omega
      obtain ⟨A6, c6, hv6⟩ := HR.out.readsN (n := out.length) (strs_length _)
      obtain ⟨hv6, _, _⟩ := hv6
      subst hv6
      clear hx hsn hout
      cases b with
      | true =>
        go_wp2_with (at_builtin; refine wpList_app1 (W := wr) rfl _ _ 34 9 (.string ByteArray.empty) 16 rfl Tryd.underlying34 info_str rfl (by decide) (fun k => w1.heap.size ≤ k) (.slice A6 out.length c6) (strs out) (.string (strB s)) rfl rfl rfl HR.out (fun k hk => by omega) (by rw [strs_length]; omega) ?_; intro v4 w4 hown hkp hob)
        go_roundg (l.length - (i + 1))
        case measure => have := HG.out; omega
        case rel => exact ⟨i + 1, hlt, rfl, by go_num, by rw [HSN.out, if_pos (by trivial), strs_append]; exact hown, HKR.out.trans hkp fun b ho => .inr (HR.out.2 b ho)⟩
      | false =>
        go_wp2_with fail
        go_roundg (l.length - (i + 1))
        case measure => have := HG.out; omega
        case rel => exact ⟨i + 1, hlt, rfl, by go_num, by rw [HSN.out, if_neg (by simp), List.append_nil]; exact HR.out, HKR.out⟩
    · obtain rfl : i = l.length := by omega
      have hT : l.take l.length = l := List.take_of_length_le (Nat.le_refl _)
      rw [hT] at HR
      clear hT
      go_wp2_with fail
      go_ret2
      exact ⟨_, by rw [HQ.out]; rfl, by rw [HL2.out]; exact HR.out.mono fun k _ hk => Nat.le_trans HK1.out.size hk, HK1.out.trans' HKR.out⟩

/-! ### Names and values, side by side -/
def VarsQ (w : World) (N y : Nat) (m : VarL) : Prop :=
  ∃ vn vv, Blk w y 42 #[vn, vv] ∧ Row w 9 (fun k => N ≤ k) vn (strs (m.map (·.1))) ∧ Row w 9 (fun k => N ≤ k) vv (strs (m.map (·.2)))
theorem VarsQ.kept {w w' : World} {S : Nat → Prop} {N y : Nat} {m : VarL} (h : VarsQ w N y m) (k : Kept w w' S) (hy : ¬ S y) (hN : ∀ b, S b → b < N) : VarsQ w' N y m := by
  obtain ⟨vn, vv, h1, h2, h3⟩ := h
  exact ⟨vn, vv, h1.kept k hy, h2.kept k fun b _ hb hs => by have := hN b hs; omega, h3.kept k fun b _ hb hs => by have := hN b hs; omega⟩
theorem VarsQ.kept0 {w w' : World} {N y : Nat} {m : VarL} (h : VarsQ w N y m) (k : Kept w w' NoB) : VarsQ w' N y m := by
  obtain ⟨vn, vv, h1, h2, h3⟩ := h
  exact ⟨vn, vv, h1.kept0 k, h2.kept0 k, h3.kept0 k⟩
theorem Blk.cells2 {w : World} {g : Nat} {t : TypeId} {a b : Value} (h : Blk w g t #[a, b]) : (w.cell? ⟨g, 0, none⟩ = some a ∧ w.cell? ⟨g, 1, none⟩ = some b) ∧ w.frozen? ⟨g, 0, none⟩ = false ∧ w.frozen? ⟨g, 1, none⟩ = false :=
  ⟨⟨by rw [h.cell]; rfl, by rw [h.cell]; rfl⟩, h.frozen 0, h.frozen 1⟩
theorem find_not {k : List UInt8} : ∀ (m : VarL) (i : Nat), (∀ j (h : j < m.length), j < i → m[j].1 ≠ k) → m.length ≤ i → findV m k = none ∧ ∀ v, putV m k v = m ++ [(k, v)]
  | [], i, _, _ => ⟨rfl, fun v => rfl⟩
  | p :: m, i, h, hi => by
    have h0 : p.1 ≠ k := h 0 (by simp) (by simp at hi; omega)
    have ih := find_not m (i - 1) (fun j hj hji => by
      have := h (j + 1) (by simp; omega) (by omega)
      simpa using this) (by simp at hi; omega)
    refine ⟨by rw [findV, if_neg h0]; exact ih.1, fun v => by rw [putV, if_neg h0, ih.2]; rfl⟩
theorem find_at {k : List UInt8} : ∀ (m : VarL) (i : Nat) (hi : i < m.length), (∀ j (h : j < m.length), j < i → m[j].1 ≠ k) → m[i].1 = k → findV m k = some m[i].2 ∧ ∀ v, putV m k v = m.set i (k, v)
  | [], i, hi, _, _ => by simp at hi
  | p :: m, 0, hi, _, he => by
    simp only [List.getElem_cons_zero] at he ⊢
    exact ⟨by rw [findV, if_pos he], fun v => by rw [putV, if_pos he]; rfl⟩
  | p :: m, i + 1, hi, h, he => by
    have h0 : p.1 ≠ k := h 0 (by simp) (by omega)
    have ih := find_at m i (by simpa using hi) (fun j hj hji => by
      have := h (j + 1) (by simp; omega) (by omega)
      simpa using this) (by simpa using he)
    refine ⟨by rw [findV, if_neg h0]; simpa using ih.1, fun v => by rw [putV, if_neg h0, ih.2]; rfl⟩
def AtR (m : VarL) (k : List UInt8) (n : Int) : Prop := (∃ (i : Nat) (h : i < m.length), n = (i : Int) ∧ findV m k = some m[i].2 ∧ (∀ v, putV m k v = m.set i (k, v)) ∧ m[i].1 = k) ∨ (n = -1 ∧ findV m k = none ∧ ∀ v, putV m k v = m ++ [(k, v)])
def AtS (w0 : World) (m : VarL) (k : List UInt8) (gk : Nat) (v5 : Value) (wr : World) : Prop := ∃ i, i ≤ m.length ∧ gk = m.length - i ∧ v5 = .int .i64 (i : Int) ∧ (∀ j (h : j < m.length), j < i → m[j].1 ≠ k) ∧ wr = w0
set_option maxHeartbeats 1000000 in
set_option maxRecDepth 100000 in
theorem refAt_calls (w : World) (N y : Nat) (m : VarL) (k : List UInt8) (h : VarsQ w N y m) (hm : m.length ≤ 1000000) :
    Calls Tryd.prog 31 #[.pointer (some ⟨y, 0, none⟩), .string (strB k)] w fun en w' => ∃ n, en = .returned (.int .i64 n) ∧ AtR m k n ∧ w' = w := by
  obtain ⟨vn, vv, hb, hn, hv⟩ := h
  obtain ⟨A, c, rfl, _, hR⟩ := hn.readsN (n := m.length) (by rw [strs_length, List.length_map])
  obtain ⟨⟨c0, _⟩, _⟩ := hb.cells2
  have HR := Lib.hid hR
  clear hb hn hv hR
  go_enter Tryd.func31, Tryd.ntmps31
  go_wp2_with fail
  go_loopg [5] m.length (fun gk v5 wr => AtS w m k gk v5 wr)
  case atStart => exact ⟨0, Nat.zero_le _, rfl, rfl, fun j _ hj => by omega, rfl⟩
  case round =>
    obtain ⟨i, hi, hgk, rfl, hno, rfl⟩ := hrel
    have HG := Lib.hid hgk
    have HNO := Lib.hid hno
    clear hgk hno
    rcases Nat.lt_or_ge i m.length with hlt | hge
    · obtain ⟨ad, u, hA, hu, hcell⟩ := HR.out.at_ hlt
      subst hA
      rw [strs_at _ i (by rw [List.length_map]; exact hlt)] at hu
      injection hu with hu
      subst hu
      rw [List.getElem_map] at hcell
      obtain ⟨x, hx⟩ : ∃ x, m[i].1 = x := ⟨_, rfl⟩
      rw [hx] at hcell
      have HX := Lib.hid hx
      clear hx
      by_cases he : x = k
      · have hb : (x == k) = true := beq_iff_eq.2 he
        have hfa := find_at m i hlt HNO.out (HX.out.trans he)
        have HF := Lib.hid hfa
        have HXE := Lib.hid (HX.out.trans he)
        clear he hfa
        go_wp2_with fail
        go_ret
        exact ⟨_, rfl, .inl ⟨i, hlt, rfl, HF.out.1, HF.out.2, HXE.out⟩, rfl⟩
      · have hb : (x == k) = false := beq_eq_false_iff_ne.2 he
        have HE := Lib.hid he
        clear he
        go_wp2_with fail
        go_roundg (m.length - (i + 1))
        case measure => have := HG.out; omega
        case rel => exact ⟨i + 1, hlt, rfl, by go_num, fun j hj hji => by
          rcases Nat.lt_or_ge j i with h | h
          · exact HNO.out j hj h
          · have : j = i := by omega
            subst this
            rw [HX.out]
            exact HE.out, rfl⟩
    · have hfn := find_not m i HNO.out hge
      have HF := Lib.hid hfn
      clear hfn
      obtain rfl : i = m.length := by omega
      go_wp2_with fail
      go_ret
      exact ⟨_, rfl, .inr ⟨rfl, HF.out⟩, rfl⟩
set_option maxHeartbeats 1000000 in
set_option maxRecDepth 100000 in
theorem refGet_calls (w : World) (N y : Nat) (m : VarL) (k : List UInt8) (h : VarsQ w N y m) (hm : m.length ≤ 1000000) (e : Option (List UInt8)) (he : findV m k = e) :
    Calls Tryd.prog 20 #[.pointer (some ⟨y, 0, none⟩), .string (strB k)] w fun en w' => en = .returned (.tuple #[.string (strB (e.getD [])), .bool e.isSome]) ∧ w' = w := by
  have hcall := refAt_calls w N y m k h hm
  obtain ⟨vn, vv, hb, hn, hv⟩ := h
  obtain ⟨A, c, rfl, _, hR⟩ := hv.readsN (n := m.length) (by rw [strs_length, List.length_map])
  obtain ⟨⟨_, c1⟩, _⟩ := hb.cells2
  have HR := Lib.hid hR
  have HC := Lib.hid hcall
  have HE := Lib.hid he
  clear hb hn hv hR hcall he
  go_enter Tryd.func20, Tryd.ntmps20
  go_wp2_with fail
  refine HC.out.mono ?_
  rintro en w1 ⟨n, rfl, hor, rfl⟩
  rcases hor with ⟨i, hi, rfl, hf, _, _⟩ | ⟨rfl, hf, _⟩
  · obtain ⟨ad, u, hA, hu, hcell⟩ := HR.out.at_ hi
    subst hA
    rw [strs_at _ i (by rw [List.length_map]; exact hi)] at hu
    injection hu with hu
    subst hu
    rw [List.getElem_map] at hcell
    obtain ⟨x, hx⟩ : ∃ x, m[i].2 = x := ⟨_, rfl⟩
    rw [hx] at hcell hf
    have he : e = some x := by rw [← HE.out, hf]
    subst he
    have t1 : ¬ (i : Int) < 0 := by omega
    clear hx hf
    go_wp2_with fail
    go_ret2
    exact ⟨rfl, rfl⟩
  · have he : e = none := by rw [← HE.out, hf]
    subst he
    clear hf
    go_wp2_with fail
    go_ret2
    exact ⟨rfl, rfl⟩
end Go.Proofs.YtcggpedebcamdaaDoor
