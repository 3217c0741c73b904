/- Variables: the reference's Expand: what it computes. -/
import Derived.Test.YtcggpedebcamdaaDoorVarR4
import Derived.Test.YtcggpedebcamdaaDoorVarParts
set_option linter.unusedVariables false
set_option linter.unusedSimpArgs false
namespace Go.Proofs.YtcggpedebcamdaaDoor
open Go.RowKit Go.Shelf Go.Lib

theorem wtP_take (l : List Part) (i : Nat) : wtP (l.take i) ≤ wtP l := by
  have := wtP_app (l.take i) (l.drop i)
  rw [List.take_append_drop] at this
  omega
def ExS (w1 : World) (m : VarL) (l : List Part) (gk : Nat) (v8 v9 : Value) (wr : World) : Prop :=
  ∃ i, i ≤ l.length ∧ gk = l.length - i ∧ v8 = .string (strB (wroteP (findV m) (l.take i))) ∧ v9 = .int .i64 (i : Int) ∧ okP (findV m) (l.take i) ∧ wr = w1
theorem wrote_snoc (m : VarL) {l : List Part} {i : Nat} (h : i < l.length) : wroteP (findV m) (l.take (i + 1)) = wroteP (findV m) (l.take i) ++ if l[i].2 then (findV m l[i].1).getD [] else l[i].1 := by
  rw [List.take_succ_eq_append_getElem h, wroteP_app]
  congr 1
  simp [wroteP]
set_option maxHeartbeats 2000000 in
set_option maxRecDepth 100000 in
theorem refExpand_calls (w : World) (N y : Nat) (m : VarL) (t : List UInt8) (h : VarsQ w N y m) (hm : m.length ≤ 16) (hsm : ∀ x ∈ m, x.2.length ≤ 1000) (hl : t.length ≤ 1000000) (e : Option (List UInt8)) (he : expandL (findV m) t = e) :
    Calls Tryd.prog 21 #[.pointer (some ⟨y, 0, none⟩), .string (strB t)] w fun en w' => en = .returned (.tuple #[.string (strB (e.getD [])), .bool e.isSome]) ∧ Kept w w' NoB := by
  obtain ⟨pl, hpl⟩ : ∃ pl, partsL t = pl := ⟨_, rfl⟩
  have hlen := parts_lenD hpl
  have H := Lib.hid h
  have HE := Lib.hid he
  have HSM := Lib.hid hsm
  have HPL := Lib.hid hpl
  clear h he hsm hpl
  go_enter Tryd.func21, Tryd.ntmps21
  go_wp2_with fail
  refine (refParts_calls w t hl pl HPL.out).mono ?_
  rintro en w1 ⟨v, rfl, hrow, hk1⟩
  have H1 := Lib.hid (H.out.kept0 hk1)
  have HK1 := Lib.hid hk1
  obtain ⟨A, c, rfl, hP⟩ := hrow.part
  have HPR := Lib.hid hP
  clear hrow hk1 hP
  cases pl with
  | none =>
    have e1 : e = none := by rw [← HE.out, expandL, HPL.out]; rfl
    subst e1
    simp only [Option.isSome_none]
    go_wp2_with fail
    go_ret2
    exact ⟨rfl, HK1.out⟩
  | some l =>
    simp only [Option.getD_some, Option.isSome_some] at HPR hlen ⊢
    have hwt := parts_wt .n t l HPL.out
    simp only at hwt
    have HWT := Lib.hid hwt
    clear hwt
    go_wp2_with fail
    go_loopg [8, 9] l.length (fun gk v8 v9 wr => ExS w1 m l gk v8 v9 wr)
    case atStart => exact ⟨0, Nat.zero_le _, rfl, rfl, rfl, fun p hp => by simp at hp, rfl⟩
    case round =>
      obtain ⟨i, hi, hgk, rfl, rfl, hok, rfl⟩ := hrel
      have HG := Lib.hid hgk
      have HOK := Lib.hid hok
      clear hgk hok
      rcases Nat.lt_or_ge i l.length with hlt | hge
      · obtain ⟨ad, hA, hb, c0, c1⟩ := HPR.out.2 i hlt
        subst hA
        have hsn := wrote_snoc m hlt
        have hol : (wroteP (findV m) (l.take i)).length ≤ 4000000000 := by
          have h1 := exp_len HSM.out (l.take i)
          have h2 := wtP_take l i
          have h3 := HWT.out
          omega
        have htk := List.take_succ_eq_append_getElem hlt
        have hmem : l[i] ∈ l := List.getElem_mem hlt
        obtain ⟨x, hx⟩ : ∃ x, l[i] = x := ⟨_, rfl⟩
        rw [hx] at c0 c1 hsn htk hmem
        obtain ⟨s, b⟩ := x
        simp only at c0 c1 hsn
        obtain ⟨out, hout⟩ : ∃ o, wroteP (findV m) (l.take i) = o := ⟨_, rfl⟩
        rw [hout] at hsn hol ⊢
        have hwl : s.length ≤ 4000000 := by
          have h1 := wtP_app (l.take i) [(s, b)]
          rw [← htk] at h1
          have h2 := wtP_take l (i + 1)
          have h3 := HWT.out
          have h4 : s.length ≤ wtP [(s, b)] := by simp [wtP]
          omega
        have HTK := Lib.hid htk
        have HMEM := Lib.hid hmem
        cases b with
        | false =>
          have HSN := Lib.hid hsn
          have a1 := strB_app out s
          clear hx hsn hout htk hmem
          go_wp2_with fail
          go_roundg (l.length - (i + 1))
          case measure => have := HG.out; omega
          case rel => exact ⟨i + 1, hlt, rfl, by rw [HSN.out, if_neg (by simp)], by go_num, (by
            rw [HTK.out]
            intro p hp h2
            rcases List.mem_append.1 hp with h | h
            · exact HOK.out p h h2
            · simp at h; subst h; cases h2), rfl⟩
        | true =>
          obtain ⟨q, hq⟩ : ∃ q, findV m s = q := ⟨_, rfl⟩
          rw [hq] at hsn
          have hval : (q.getD []).length ≤ 1000 := by
            cases q with
            | none => simp
            | some v => exact find_len HSM.out s v hq
          have HQ := Lib.hid hq
          have HSN := Lib.hid hsn
          clear hx hsn hout htk hmem hq
          go_wp2_with fail
          refine (refGet_calls wr N y m s H1.out (by omega) q HQ.out).mono ?_
          rintro en w2 ⟨rfl, rfl⟩
          cases q with
          | none =>
            have e1 : e = none := by
              rw [← HE.out, expandL, HPL.out, Option.bind_some]
              exact textP_bad HMEM.out HQ.out
            subst e1
            simp only [Option.getD_none, Option.isSome_none]
            go_wp2_with fail
            go_ret2
            exact ⟨rfl, HK1.out⟩
          | some v =>
            simp only [Option.getD_some, Option.isSome_some] at hval ⊢
            have a1 := strB_app out v
            go_wp2_with fail
            go_roundg (l.length - (i + 1))
            case measure => have := HG.out; omega
            case rel => exact ⟨i + 1, hlt, rfl, by rw [HSN.out, if_pos (by trivial)]; rfl, by go_num, (by
              rw [HTK.out]
              intro p hp h2
              rcases List.mem_append.1 hp with h | h
              · exact HOK.out p h h2
              · simp at h; subst h; simp only; rw [HQ.out]; rfl), rfl⟩
      · obtain rfl : i = l.length := by omega
        have hT : l.take l.length = l := List.take_of_length_le (Nat.le_refl _)
        rw [hT] at HOK ⊢
        have e1 : e = some (wroteP (findV m) l) := by
          rw [← HE.out, expandL, HPL.out, Option.bind_some]
          exact textP_ok HOK.out
        subst e1
        clear hT
        go_wp2_with fail
        go_ret2
        exact ⟨rfl, HK1.out⟩
end Go.Proofs.YtcggpedebcamdaaDoor
