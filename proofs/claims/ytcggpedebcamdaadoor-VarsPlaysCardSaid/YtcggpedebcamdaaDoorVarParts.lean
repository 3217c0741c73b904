/- VarsParts's walk. -/
import Derived.Test.YtcggpedebcamdaaDoorVarC
import Derived.Test.YtcggpedebcamdaaDoorRowW
set_option linter.unusedVariables false
set_option linter.unusedSimpArgs false
namespace Go.Proofs.YtcggpedebcamdaaDoor
open Go.RowKit Go.Shelf Go.Lib

theorem namesL_len {t : List UInt8} {l : List (List UInt8)} (h : namesL t = some l) : l.length ≤ 2 * t.length := by
  have hw : ∀ (md : Mode) (t : List UInt8) (l : List Part), partsM md t = some l → l.length ≤ 2 * t.length + (match md with | .n => 0 | .s => 0 | .m _ => 1) := by
    intro md t
    induction t generalizing md with
    | nil =>
      intro l h
      cases md with
      | n => simp [partsM] at h; subst h; simp
      | s => simp [partsM] at h
      | m nm => simp [partsM] at h; subst h; simp
    | cons c t ih =>
      intro l h
      rw [List.length_cons]
      cases md with
      | n =>
        rw [partsM] at h
        split at h
        · have := ih _ _ h
          simp only at this ⊢
          omega
        · obtain ⟨l', h1, h2⟩ := Option.map_eq_some_iff.1 h
          have := ih _ _ h1
          subst h2
          simp only [List.length_cons] at this ⊢
          omega
      | s =>
        rw [partsM] at h
        split at h
        · have := ih _ _ h
          simp only at this ⊢
          omega
        · split at h
          · obtain ⟨l', h1, h2⟩ := Option.map_eq_some_iff.1 h
            have := ih _ _ h1
            subst h2
            simp only [List.length_cons] at this ⊢
            omega
          · cases h
      | m nm =>
        rw [partsM] at h
        split at h
        · have := ih _ _ h
          simp only at this ⊢
          omega
        · split at h
          · obtain ⟨l', h1, h2⟩ := Option.map_eq_some_iff.1 h
            have := ih _ _ h1
            subst h2
            simp only [List.length_cons] at this ⊢
            omega
          · obtain ⟨l', h1, h2⟩ := Option.map_eq_some_iff.1 h
            have := ih _ _ h1
            subst h2
            simp only [List.length_cons] at this ⊢
            omega
  unfold namesL at h
  obtain ⟨p, h1, h2⟩ := Option.map_eq_some_iff.1 h
  have := hw .n t p h1
  subst h2
  unfold namesP
  rw [List.length_map]
  have := List.length_filter_le (fun x : Part => x.2) p
  simp only at *
  omega
abbrev anyW : Nat → Prop := fun _ => True
theorem namesL_lenD {t : List UInt8} {o : Option (List (List UInt8))} (h : namesL t = o) : (o.getD []).length ≤ 2 * t.length := by
  cases o with
  | none => simp
  | some l => exact namesL_len h
theorem parts_wt : ∀ (md : Mode) (t : List UInt8) (l : List Part), partsM md t = some l → wtP l ≤ 2 * t.length + (match md with | .n => 0 | .s => 0 | .m nm => nm.length + 1) := by
  intro md t
  induction t generalizing md with
  | nil =>
    intro l h
    cases md with
    | n => simp [partsM] at h; subst h; simp [wtP]
    | s => simp [partsM] at h
    | m nm => simp [partsM] at h; subst h; simp [wtP]
  | cons c t ih =>
    intro l h
    have e1 : ∀ (p : Part) (l' : List Part), wtP (p :: l') = (p.1.length + if p.2 then 1 else 0) + wtP l' := fun p l' => by simp [wtP]
    rw [List.length_cons]
    cases md with
    | n =>
      rw [partsM] at h
      split at h
      · have := ih _ _ h
        simp only at this ⊢
        omega
      · obtain ⟨l', h1, h2⟩ := Option.map_eq_some_iff.1 h
        have := ih _ _ h1
        rw [← h2, e1]
        simp at this ⊢
        omega
    | s =>
      rw [partsM] at h
      split at h
      · have := ih _ _ h
        simp at this ⊢
        omega
      · split at h
        · obtain ⟨l', h1, h2⟩ := Option.map_eq_some_iff.1 h
          have := ih _ _ h1
          rw [← h2, e1]
          simp at this ⊢
          omega
        · cases h
    | m nm =>
      rw [partsM] at h
      split at h
      · have := ih _ _ h
        simp at this ⊢
        omega
      · split at h
        · obtain ⟨l', h1, h2⟩ := Option.map_eq_some_iff.1 h
          have := ih _ _ h1
          rw [← h2, e1]
          simp at this ⊢
          omega
        · obtain ⟨l', h1, h2⟩ := Option.map_eq_some_iff.1 h
          have := ih _ _ h1
          rw [← h2, e1, e1]
          simp at this ⊢
          omega
theorem exp_bound {m : VarL} {f : List UInt8 → Option (List UInt8)} {t x : List UInt8} (h : expandL f t = some x) (hm : ∀ x ∈ m, x.2.length ≤ 1000) (hf : findV m = f) : x.length ≤ 2000 * t.length := by
  subst hf
  unfold expandL at h
  cases hp : partsL t with
  | none => rw [hp] at h; cases h
  | some l =>
    rw [hp, Option.bind_some] at h
    obtain ⟨_, rfl⟩ := textP_some h
    have h1 := exp_len hm l
    have h2 := parts_wt .n t l hp
    simp only at h2
    omega
theorem same_at (w : World) (S T : Nat → Prop) (A B : Option Addr) (n c n' c' : Nat) (xs ys : List (List UInt8)) (hx : Reads w S A n (strs xs)) (hy : Reads w T B n' (strs ys)) (hn : n ≤ 140737488355328) (hn' : n' ≤ 140737488355328) (q : Bool) (hq : decide (xs = ys) = q) :
    Calls Tryd.prog 17 #[.slice A n c, .slice B n' c'] w fun en w' => en = .returned (.bool q) ∧ Kept w w' NoB := by
  subst hq
  exact same_calls w S T A B n c n' c' xs ys hx hy hn hn'
theorem strs_one (l : List (List UInt8)) : ∀ u ∈ strs l, u.oneCell' = true := by
  intro u hu
  obtain ⟨x, _, rfl⟩ := List.mem_map.1 hu
  rfl
set_option maxHeartbeats 8000000 in
set_option maxRecDepth 100000 in
theorem parts_law (w : World) (s0 t0 v0 : List UInt8) (hm : MaxI w) :
    Calls Tryd.prog 6 #[.string (strB s0), .string (strB t0), .string (strB v0)] w fun en w' => en = .returned (.bool true) ∧ Kept w w' NoB := by
  go_enter Tryd.func6, Tryd.ntmps6
  go_wp2_with fail
  refine (shown_calls w hm).mono ?_
  rintro en w1 ⟨rfl, hk1⟩
  have HK1 := Lib.hid hk1
  clear hk1
  go_wp2_with fail
  obtain ⟨s, hs⟩ : ∃ s, s0.take 100 = s := ⟨_, rfl⟩
  obtain ⟨t, ht⟩ : ∃ t, t0.take 100 = t := ⟨_, rfl⟩
  obtain ⟨v, hv⟩ : ∃ v, v0.take 100 = v := ⟨_, rfl⟩
  have hsl : s.length ≤ 100 := by rw [← hs, List.length_take]; omega
  have htl : t.length ≤ 100 := by rw [← ht, List.length_take]; omega
  have hvl : v.length ≤ 100 := by rw [← hv, List.length_take]; omega
  refine (short_calls w1 s0 100 (by omega) 100 rfl s hs).mono ?_
  rintro en w2 ⟨rfl, rfl⟩
  clear hs
  go_wp2_with fail
  refine (short_calls w2 t0 100 (by omega) 100 rfl t ht).mono ?_
  rintro en w3 ⟨rfl, rfl⟩
  clear ht
  go_wp2_with fail
  refine (new_calls w3).mono ?_
  rintro en w4 ⟨rfl, h4, hk4⟩
  have H4 := Lib.hid h4
  have HK4 := Lib.hid (HK1.out.trans' hk4)
  have hz4 := HK1.out.size
  clear h4 hk4
  go_wp2_with fail
  refine (short_calls w4 v0 100 (by omega) 100 rfl v hv).mono ?_
  rintro en w5 ⟨rfl, rfl⟩
  clear hv
  go_wp2_with fail
  refine (set_at w5 _ _ [] [97] v _ _ H4.out rfl rfl (0, [([97], v)]) (by unfold setL; rw [if_neg (by omega), if_neg (by simp)]; rfl)).mono ?_
  rintro en w6 ⟨rfl, h6, hk6, hs6⟩
  have H6 := Lib.hid h6
  have HK6 := Lib.hid (HK4.out.trans hk6 fun b hb => .inr (by omega))
  have hsm : ∀ x ∈ [(([97] : List UInt8), v)], x.2.length ≤ 1000 := fun x hx => by simp at hx; subst hx; simp only; omega
  have HSM := Lib.hid hsm
  clear h6 hk6 hs6 hsm
  obtain ⟨f, hf⟩ : ∃ f, findV [(([97] : List UInt8), v)] = f := ⟨_, rfl⟩
  have HF := Lib.hid hf
  obtain ⟨es, hes⟩ : ∃ es, expandL f s = es := ⟨_, rfl⟩
  obtain ⟨et, het⟩ : ∃ et, expandL f t = et := ⟨_, rfl⟩
  obtain ⟨ns, hns⟩ : ∃ ns, namesL s = ns := ⟨_, rfl⟩
  obtain ⟨nt, hnt⟩ : ∃ nt, namesL t = nt := ⟨_, rfl⟩
  have hez : expandL f (s ++ 32 :: t) = es.bind fun x => et.map fun y => x ++ 32 :: y := by rw [expand_two, hes, het]
  have hnz : namesL (s ++ 32 :: t) = ns.bind fun x => nt.map fun y => x ++ y := by rw [names_two, hns, hnt]
  have hisS : es.isSome = true → ns.isSome = true := fun h => by
    obtain ⟨x, hx⟩ := Option.isSome_iff_exists.1 h
    rw [← hns]
    exact expand_names (hes.trans hx)
  have hisT : et.isSome = true → nt.isSome = true := fun h => by
    obtain ⟨x, hx⟩ := Option.isSome_iff_exists.1 h
    rw [← hnt]
    exact expand_names (het.trans hx)
  have hnsl := namesL_lenD hns
  have hntl := namesL_lenD hnt
  have HES := Lib.hid hes
  have HET := Lib.hid het
  have HEZ := Lib.hid hez
  have HNS := Lib.hid hns
  have HNT := Lib.hid hnt
  have HNZ := Lib.hid hnz
  have HIS := Lib.hid hisS
  have HIT := Lib.hid hisT
  have a1 : strB s ++ (⟨#[32]⟩ : ByteArray) = strB (s ++ [32]) := strB_app s [32]
  have a2 : strB (s ++ [32]) ++ strB t = strB (s ++ 32 :: t) := by rw [strB_app]; simp
  clear hf hes het hez hns hnt hnz hisS hisT
  go_wp2_with fail
  refine (expand_at w6 _ _ _ s _ H6.out rfl HSM.out (by omega) (hm.kept0 HK6.out) es (by rw [HF.out]; exact HES.out)).mono ?_
  rintro en w7 ⟨rfl, hk7⟩
  have HK7 := Lib.hid (HK6.out.trans' hk7)
  have H7 := Lib.hid (H6.out.kept0 hk7)
  clear hk7
  go_wp2_with fail
  refine (expand_at w7 _ _ _ t _ H7.out rfl HSM.out (by omega) (hm.kept0 HK7.out) et (by rw [HF.out]; exact HET.out)).mono ?_
  rintro en w8 ⟨rfl, hk8⟩
  have HK8 := Lib.hid (HK7.out.trans' hk8)
  have H8 := Lib.hid (H7.out.kept0 hk8)
  clear hk8
  obtain ⟨ez, hez⟩ : ∃ ez, (es.bind fun x => et.map fun y => x ++ 32 :: y) = ez := ⟨_, rfl⟩
  obtain ⟨nz, hnz⟩ : ∃ nz, (ns.bind fun x => nt.map fun y => x ++ y) = nz := ⟨_, rfl⟩
  rw [hez] at HEZ
  rw [hnz] at HNZ
  have EZ := Lib.hid hez
  have NZ := Lib.hid hnz
  clear hez hnz
  go_wp2_with fail
  refine (expand_at w8 _ _ _ (s ++ 32 :: t) _ H8.out rfl HSM.out (by rw [List.length_append, List.length_cons]; omega) (hm.kept0 HK8.out) ez (by rw [HF.out]; exact HEZ.out)).mono ?_
  rintro en w9 ⟨rfl, hk9⟩
  have HK9 := Lib.hid (HK8.out.trans' hk9)
  clear hk9
  go_wp2_with fail
  refine (names_calls w9 s (by omega) (hm.kept0 HK9.out) ns HNS.out).mono ?_
  rintro en wa ⟨va, rfl, hra, hka⟩
  obtain ⟨Aa, ca, rfl, hca, _⟩ := hra.readsN (n := (ns.getD []).length) (strs_length _)
  have HKA := Lib.hid (HK9.out.trans' hka)
  have HRA := Lib.hid hra
  clear hka hra
  go_wp2_with fail
  refine (names_calls wa t (by omega) (hm.kept0 HKA.out) nt HNT.out).mono ?_
  rintro en wb ⟨vb, rfl, hrb, hkb⟩
  obtain ⟨Ab, cb, rfl, hcb, _⟩ := hrb.readsN (n := (nt.getD []).length) (strs_length _)
  have HKB := Lib.hid (HKA.out.trans' hkb)
  have HRA2 := Lib.hid (HRA.out.kept0 hkb)
  have HRB := Lib.hid hrb
  clear hkb hrb
  go_wp2_with fail
  refine (names_calls wb (s ++ 32 :: t) (by rw [List.length_append, List.length_cons]; omega) (hm.kept0 HKB.out) nz HNZ.out).mono ?_
  rintro en wc ⟨vc, rfl, hrc, hkc⟩
  have hnzl := namesL_lenD HNZ.out
  rw [List.length_append, List.length_cons] at hnzl
  obtain ⟨Ac, cc, rfl, hcc, _⟩ := hrc.readsN (n := (nz.getD []).length) (strs_length _)
  have HKC := Lib.hid (HKB.out.trans' hkc)
  have HRA3 := Lib.hid ((HRA2.out.kept0 hkc).reads'.mono (T := fun k => k < wc.heap.size) fun _ h _ => h)
  have HRB3 := Lib.hid ((HRB.out.kept0 hkc).reads'.mono (T := fun k => k < wc.heap.size) fun _ h _ => h)
  have HRC3 := Lib.hid (hrc.reads'.mono (T := fun k => k < wc.heap.size) fun _ h _ => h)
  rw [strs_length] at HRA3 HRB3 HRC3
  clear hkc hrc
  obtain ⟨xa, hxa⟩ : ∃ x, ns.getD [] = x := ⟨_, rfl⟩
  obtain ⟨xb, hxb⟩ : ∃ x, nt.getD [] = x := ⟨_, rfl⟩
  obtain ⟨xc, hxc⟩ : ∃ x, nz.getD [] = x := ⟨_, rfl⟩
  rw [hxa] at HRA3 hnsl ⊢
  rw [hxb] at HRB3 hntl ⊢
  rw [hxc] at HRC3 hnzl ⊢
  have hsame : ns.isSome = true → nt.isSome = true → xc = xa ++ xb := fun h1 h2 => by
    obtain ⟨x, rfl⟩ := Option.isSome_iff_exists.1 h1
    obtain ⟨y, rfl⟩ := Option.isSome_iff_exists.1 h2
    rw [← hxa, ← hxb, ← hxc, ← NZ.out]
    rfl
  have hnzs : nz.isSome = (ns.isSome && nt.isSome) := by
    rw [← NZ.out]
    cases ns <;> cases nt <;> rfl
  have hezs : ez.isSome = (es.isSome && et.isSome) := by
    rw [← EZ.out]
    cases es <;> cases et <;> rfl
  have hez : ∀ x y, es = some x → et = some y → ez = some (x ++ 32 :: y) := fun x y h1 h2 => by
    rw [← EZ.out, h1, h2]
    rfl
  have HSAME := Lib.hid hsame
  have HEZ2 := Lib.hid hez
  rw [hnzs, hezs]
  obtain ⟨bs, hbs⟩ : ∃ b, ns.isSome = b := ⟨_, rfl⟩
  obtain ⟨bt, hbt⟩ : ∃ b, nt.isSome = b := ⟨_, rfl⟩
  rw [hbs, hbt]
  have HBS := Lib.hid hbs
  have HBT := Lib.hid hbt
  clear hxa hxb hxc hsame hnzs hezs hez hbs hbt
  have hes : (es = none) ∨ ∃ x, es = some x ∧ bs = true := by
    cases es with
    | none => exact .inl rfl
    | some x => exact .inr ⟨x, rfl, by rw [← HBS.out]; exact HIS.out rfl⟩
  have het : (et = none) ∨ ∃ x, et = some x ∧ bt = true := by
    cases et with
    | none => exact .inl rfl
    | some x => exact .inr ⟨x, rfl, by rw [← HBT.out]; exact HIT.out rfl⟩
  have hsame2 : bs = true → bt = true → decide (xc = xa ++ xb) = true := fun h1 h2 => decide_eq_true (HSAME.out (by rw [HBS.out]; exact h1) (by rw [HBT.out]; exact h2))
  have HS2 := Lib.hid hsame2
  have hone1 := strs_one xa
  have hone2 := strs_one xb
  have HO1 := Lib.hid hone1
  have HO2 := Lib.hid hone2
  clear hsame2 hone1 hone2 a1 a2
  rcases hes with rfl | ⟨x, rfl, rfl⟩ <;> rcases het with rfl | ⟨y, rfl, rfl⟩
  case' inl.inl => cases bs <;> cases bt
  case' inl.inr => cases bs
  case' inr.inl => cases bt
  case' inr.inr =>
    have hez := HEZ2.out x y rfl rfl
    subst hez
    have a1 : strB x ++ (⟨#[32]⟩ : ByteArray) = strB (x ++ [32]) := strB_app x [32]
    have a2 : strB (x ++ [32]) ++ strB y = strB (x ++ 32 :: y) := by rw [strB_app]; simp
    have b1 : (strB (x ++ 32 :: y) == strB (x ++ 32 :: y)) = true := (Go.MapKept.bytes_beq _ _).2 rfl
    have hxl := exp_bound HES.out HSM.out HF.out
    have hyl := exp_bound HET.out HSM.out HF.out
  all_goals
    simp only [Option.getD_some, Option.isSome_some, Option.getD_none, Option.isSome_none, Bool.and_true, Bool.true_and, Bool.and_false, Bool.false_and]
    go_wp2_with (first
      | (at_builtin; refine wpList_appN (W := wc.alloc (.cells #[] 9)) rfl _ _ 34 9 (.string ByteArray.empty) 16 rfl Tryd.underlying34 info_str rfl (by decide) (fun k => wc.heap.size ≤ k) (fun k => k < wc.heap.size) (.slice (some ⟨wc.heap.size, 0, none⟩) 0 0) [] (strs xa) Aa xa.length ca rfl rfl HO1.out (Row.made0 wc _ _ (Nat.le_refl _)) (HRA3.out.alloc _) (fun k hk => by rw [World.size_alloc] at hk; omega) (by simp only [List.length_nil]; omega) ?_; intro v1 w1 hown1 hkp1 hob1)
      | (at_builtin; refine wpList_appN (W := w1) rfl _ _ 34 9 (.string ByteArray.empty) 16 rfl Tryd.underlying34 info_str rfl (by decide) (fun k => wc.heap.size ≤ k) (fun k => k < wc.heap.size) v1 _ (strs xb) Ab xb.length cb rfl rfl HO2.out hown1 ((HRB3.out.alloc _).kept hkp1 (fun b _ hb e => by have := ob_lit e; omega)) (fun k hk => by have h1 := hkp1.size; rw [World.size_alloc] at h1; omega) (by simp only [List.length_append, List.length_nil, strs_length]; omega) ?_; intro v2 w2 hown2 hkp2 hob2))
    have h12 : Kept (wc.alloc (.cells #[] 9)) w2 (fun k => wc.heap.size ≤ k) := (hkp1.mono fun k hk => by have := ob_lit hk; omega).trans hkp2 fun b hb => .inl (hown1.2 b hb)
    have hcw := (HRC3.out.alloc (.cells #[] 9)).kept h12 (fun b _ hb e => by omega)
    have hk2 : Kept w w2 NoB := (HKC.out.alloc (.cells #[] 9)).trans h12 fun b hb => .inr (by have := HKC.out.size; omega)
    have hrow : Row w2 9 (fun k => wc.heap.size ≤ k) v2 (strs (xa ++ xb)) := by
      rw [strs_append]
      exact hown2
    obtain ⟨A2, k2, rfl, hk22, hR2⟩ := hrow.readsN (n := (xa ++ xb).length) (strs_length _)
    have HCW := Lib.hid hcw
    have HR2 := Lib.hid hR2
    have HK2 := Lib.hid hk2
    clear h12 hcw hk2 hrow hR2 hown1 hkp1 hob1 hown2 hkp2 hob2
    go_wp2_with fail
    first
      | (have hq := HS2.out (by trivial) (by trivial)
         have HQ := Lib.hid hq
         clear hq
         refine (same_at w2 _ _ Ac A2 _ _ _ _ xc (xa ++ xb) HCW.out HR2.out (by omega) (by rw [List.length_append]; omega) true HQ.out).mono ?_
         rintro en w3 ⟨rfl, hk3⟩
         have HK3 := Lib.hid (HK2.out.trans' hk3)
         clear hk3
         go_wp2_with fail
         go_ret
         exact ⟨rfl, HK3.out⟩)
      | (obtain ⟨q, hq⟩ : ∃ q, decide (xc = xa ++ xb) = q := ⟨_, rfl⟩
         have HQ := Lib.hid hq
         clear hq
         refine (same_at w2 _ _ Ac A2 _ _ _ _ xc (xa ++ xb) HCW.out HR2.out (by omega) (by rw [List.length_append]; omega) q HQ.out).mono ?_
         rintro en w3 ⟨rfl, hk3⟩
         have HK3 := Lib.hid (HK2.out.trans' hk3)
         clear hk3
         go_wp2_with fail
         go_ret
         exact ⟨rfl, HK3.out⟩)
theorem varsParts_walk (W : World) (a0 a1 a2 : ByteArray) (w0 : a0.size ≤ 140737488351232) (w1 : a1.size ≤ 140737488351232) (w2 : a2.size ≤ 140737488351232) (hsh : W.ShapedOpen Tryd.prog) :
    Calls Tryd.prog 6 #[.string a0, .string a1, .string a2] W fun en w' => en = .returned (.bool true) ∧ Below W.heap.size W w' := by
  obtain ⟨s, rfl, _⟩ := strB_of a0
  obtain ⟨t, rfl, _⟩ := strB_of a1
  obtain ⟨v, rfl, _⟩ := strB_of a2
  exact (parts_law W s t v (MaxI.of_shape hsh)).mono fun _ _ ⟨he, hk⟩ => ⟨he, hk.below⟩
end Go.Proofs.YtcggpedebcamdaaDoor
