/- LogLines' walk. -/
import Derived.Test.YtammhfnolafknaaDoorEnts
import Derived.Test.YtammhfnolafknaaDoorLogS
import Derived.Test.YtammhfnolafknaaDoorLogU
import Derived.Test.YtammhfnolafknaaDoorRows
import Derived.Test.YtammhfnolafknaaDoorRowW
import Derived.LaidSub
import Derived.MakeChecks
set_option linter.unusedVariables false
set_option linter.unusedSimpArgs false
namespace Go.Proofs.YtammhfnolafknaaDoor
open Go.RowKit Go.Shelf Go.Lib Go.Sort Go.MakeChecks

theorem PowT.of_lines {w : World} (h : laidMetH Tryd.prog Rows.logLinesRow.laid w) : PowT w := by
  have h1 := laidMetH.filter (fun x => x.1 == "internal/strconv.uint64pow10") h
  have e : Rows.logLinesRow.laid.filter (fun x => x.1 == "internal/strconv.uint64pow10") = [("internal/strconv.uint64pow10", Lib.tabData .u64 Lib.pow10Tab)] := by rfl
  rw [e, laidMetH_plain _ _ _ (by rfl)] at h1
  exact Lib.tabIs_of_head (g := 3) (t := 104) (e := 72) (n := 20) (by kernel_rfl) (by kernel_rfl) Tryd.underlying104 Tryd.underlying72 (by kernel_rfl) (by kernel_rfl) h1
/-! ### Plain: a line has one end -/
def is10 (c : UInt8) : Bool := c == 10
theorem dg_ne (u k : Nat) : is10 (dg u k) = false := by
  unfold is10 dg
  have h : ∀ d < 10, (UInt8.ofNat (48 + d) == 10) = false := by decide
  exact h _ (Nat.mod_lt _ (by decide))
theorem digits_no (u : Nat) : (decDigits u).countP is10 = 0 := by
  rw [decDigits_eq, List.countP_eq_zero]
  intro b hb
  obtain ⟨t, _, rfl⟩ := List.mem_map.1 hb
  rw [dg_ne]
  decide
theorem itoa_no (n : Int) : (itoa n).countP is10 = 0 := by
  unfold itoa
  split
  · rw [List.countP_cons_of_neg (by decide)]
    exact digits_no _
  · exact digits_no _
theorem hexC_no : ∀ k < 16, is10 (hexC k) = false := by decide +kernel
theorem showC_no (c : UInt8) : (showC c).countP is10 = 0 := by
  unfold showC
  cases h : oddC c with
  | true =>
    rw [if_pos rfl]
    unfold hex2
    rw [List.countP_cons_of_neg (by decide), List.countP_cons_of_neg (by decide), List.countP_cons_of_neg (by rw [hexC_no _ (by have := c.toNat_lt; omega)]; decide), List.countP_cons_of_neg (by rw [hexC_no _ (Nat.mod_lt _ (by decide))]; decide)]
    rfl
  | false =>
    rw [if_neg (by decide)]
    have : is10 c = false := by
      unfold is10
      rw [beq_eq_false_iff_ne]
      rintro rfl
      exact absurd h (by decide)
    rw [List.countP_cons_of_neg (by rw [this]; decide)]
    rfl
theorem showL_no : ∀ l : List UInt8, (showL l).countP is10 = 0
  | [] => rfl
  | c :: l => by
    have : showL (c :: l) = showC c ++ showL l := by unfold showL; rw [List.flatMap_cons]
    rw [this, List.countP_append, showC_no, showL_no l]
theorem signC_no (k : Int) : is10 (signC k) = false := by
  unfold signC
  by_cases h1 : k = 1
  · rw [if_pos h1]; decide
  · rw [if_neg h1]
    by_cases h2 : k = 2
    · rw [if_pos h2]; decide
    · rw [if_neg h2]
      by_cases h3 : k = 3
      · rw [if_pos h3]; decide
      · rw [if_neg h3]
        by_cases h4 : k = 4
        · rw [if_pos h4]; decide
        · rw [if_neg h4]; decide
theorem rowE_no (e : Ent) : (rowE e ++ [10]).countP is10 = 1 := by
  unfold rowE
  rw [List.countP_append, List.countP_append, itoa_no, List.countP_cons_of_neg (by decide), List.countP_cons_of_neg (by rw [signC_no]; decide), List.countP_cons_of_neg (by decide), showL_no]
  rfl
theorem textL_ends : ∀ es : List Ent, (textL es).countP is10 = es.length
  | [] => rfl
  | e :: es => by
    have : textL (e :: es) = (rowE e ++ [10]) ++ textL es := by unfold textL; rw [List.flatMap_cons]
    rw [this, List.countP_append, rowE_no, textL_ends es, List.length_cons]
    omega
theorem textL_nil (es : List Ent) : (textL es == []) = decide (es.length = 0) := by
  cases es with
  | nil => rfl
  | cons e es =>
    have h : textL (e :: es) ≠ [] := fun h => by
      have := textL_ends (e :: es)
      rw [h] at this
      simp at this
    rw [decide_eq_false (by simp), beq_eq_false_iff_ne]
    exact h
theorem ends_more (l : List UInt8) {i : Nat} (h : i < l.length) : (l.take (i + 1)).countP is10 = (l.take i).countP is10 + if is10 l[i] then 1 else 0 := by
  rw [List.take_succ_eq_append_getElem h, List.countP_append]
  congr 1
  simp [List.countP_cons]
/-! ### The walk -/
def EnS (w0 : World) (s : List UInt8) (gk : Nat) (v7 v8 : Value) (wr : World) : Prop :=
  ∃ i, i ≤ s.length ∧ gk = s.length - i ∧ v8 = .int .i64 ((i : Nat) : Int) ∧ v7 = .int .i64 (((s.take i).countP is10 : Nat) : Int) ∧ Kept w0 wr NoB
set_option maxHeartbeats 8000000 in
set_option maxRecDepth 100000 in
theorem lines_law (w : World) (A B : Option Addr) (n c m d : Nat) (es fs : List Ent) (hA : EntR w (fun b => b < w.heap.size) A n es) (hB : EntR w (fun b => b < w.heap.size) B m fs) (hn : n ≤ 9223372036854775807) (hm : m ≤ 9223372036854775807)
    (hwa : ∀ e ∈ es, wfE 9223372036854775807 e) (hwb : ∀ e ∈ fs, wfE 9223372036854775807 e) (hp : PowT w) :
    Calls Tryd.prog 3 #[.slice A n c, .slice B m d] w fun en w' => en = .returned (.bool true) ∧ Kept w w' NoB := by
  have HA := Lib.hid hA
  have HB := Lib.hid hB
  have HWA := Lib.hid hwa
  have HWB := Lib.hid hwb
  clear hA hB hwa hwb
  go_enter Tryd.func3, Tryd.ntmps3
  go_wp2_with fail
  refine (shown_calls w hp).mono ?_
  rintro en w1 ⟨rfl, hk1⟩
  have HK1 := Lib.hid hk1
  clear hk1
  go_wp2_with fail
  refine (few_calls w1 _ A n c es (HA.out.kept0 HK1.out) hn HWA.out).mono ?_
  rintro en w2 ⟨va, rfl, hra, hk2⟩
  have hla := fewL_len es
  have hwa := fewL_wf HWA.out
  obtain ⟨la, hlae⟩ : ∃ l, fewL es = l := ⟨_, rfl⟩
  rw [hlae] at hra hla hwa
  obtain ⟨na, hna⟩ : ∃ n, la.length = n := ⟨_, rfl⟩
  obtain ⟨A1, c1, rfl, hc1, hea⟩ := hra.ent hna
  have HK2 := Lib.hid (HK1.out.trans' hk2)
  have HEA := Lib.hid (hea.mono (T := fun k => k < w2.heap.size) fun k hk _ => hk)
  have HLA := Lib.hid hwa
  have HNA := Lib.hid hna
  have hna30 : na ≤ 30 := by omega
  clear hk2 hea hra hlae hla hwa hna
  go_wp2_with fail
  refine (few_calls w2 _ B m d fs (HB.out.kept0 HK2.out) hm HWB.out).mono ?_
  rintro en w3 ⟨vb, rfl, hrb, hk3⟩
  have hlb := fewL_len fs
  have hwb := fewL_wf HWB.out
  obtain ⟨lb, hlbe⟩ : ∃ l, fewL fs = l := ⟨_, rfl⟩
  rw [hlbe] at hrb hlb hwb
  obtain ⟨nb, hnb⟩ : ∃ n, lb.length = n := ⟨_, rfl⟩
  obtain ⟨B1, d1, rfl, hd1, heb⟩ := hrb.ent hnb
  have HK3 := Lib.hid (HK2.out.trans' hk3)
  have HEA3 := Lib.hid ((HEA.out.kept0 hk3).mono (T := fun k => k < w3.heap.size) fun k hk _ => hk)
  have HEB := Lib.hid (heb.mono (T := fun k => k < w3.heap.size) fun k hk _ => hk)
  have HLB := Lib.hid hwb
  have HNB := Lib.hid hnb
  have hnb30 : nb ≤ 30 := by omega
  clear hk3 heb hrb hlbe hlb hwb hnb HEA
  go_wp2_with fail
  refine (text_calls w3 _ A1 na c1 100 la HEA3.out (by omega) (by omega) HLA.out (hp.kept0 HK3.out)).mono ?_
  rintro en w4 ⟨rfl, hk4⟩
  have HK4 := Lib.hid (HK3.out.trans' hk4)
  have HEA4 := Lib.hid ((HEA3.out.kept0 hk4).mono (T := fun k => k < w4.heap.size) fun k hk _ => hk)
  have HEB4 := Lib.hid ((HEB.out.kept0 hk4).mono (T := fun k => k < w4.heap.size) fun k hk _ => hk)
  have hends := textL_ends la
  have hnil := textL_nil la
  have happ := textL_app la lb
  have hsl : (textL la).length ≤ 430 * 30 := Nat.le_trans (textL_len HLA.out) (Nat.mul_le_mul_left _ (by have := HNA.out; omega))
  have htl : (textL lb).length ≤ 430 * 30 := Nat.le_trans (textL_len HLB.out) (Nat.mul_le_mul_left _ (by have := HNB.out; omega))
  obtain ⟨s, hs⟩ : ∃ s, textL la = s := ⟨_, rfl⟩
  obtain ⟨t, ht⟩ : ∃ s, textL lb = s := ⟨_, rfl⟩
  rw [hs] at hends hnil happ hsl
  rw [ht] at happ htl
  rw [HNA.out] at hends hnil
  rw [hs]
  have HENDS := Lib.hid hends
  have HNIL := Lib.hid hnil
  have HAPP := Lib.hid happ
  have HT := Lib.hid ht
  clear hk4 HEA3 HEB hends hnil happ hs ht
  go_wp2_with fail
  go_loopg [7, 8] s.length (fun gk v7 v8 wr => EnS w4 s gk v7 v8 wr)
  case atStart => exact ⟨0, Nat.zero_le _, rfl, rfl, rfl, Kept.refl _ _⟩
  case round =>
    obtain ⟨i, hi, hgk, rfl, rfl, hkr⟩ := hrel
    have HG := Lib.hid hgk
    have HKR := Lib.hid hkr
    clear hgk hkr
    have hsz : (strB s).size = s.length := strB_size s
    rcases Nat.lt_or_ge i s.length with hlt | hge
    · have ti : (i : Int) < (s.length : Int) := by omega
      have hcm := ends_more s hlt
      have hcl := List.countP_le_length (p := is10) (l := s.take i)
      rw [List.length_take] at hcl
      have hix : ((strB s)[i]'(by rw [strB_size]; exact hlt)) = s[i] := strB_getI s i _
      obtain ⟨b, hb⟩ : ∃ c, s[i] = c := ⟨_, rfl⟩
      rw [hb] at hcm hix
      obtain ⟨x, hx⟩ : ∃ x : Nat, b.toNat = x := ⟨_, rfl⟩
      have hix' : ((strB s)[i]'(by rw [strB_size]; exact hlt)).toNat = x := by rw [hix, hx]
      have hod : is10 b = decide (x = 10) := by
        unfold is10
        rw [← hx]
        by_cases h : b = 10
        · rw [h]; rfl
        · rw [beq_eq_false_iff_ne.2 h, decide_eq_false]
          intro h2
          exact h (UInt8.toNat_inj.1 h2)
      obtain ⟨k, hk⟩ : ∃ m, (s.take i).countP is10 = m := ⟨_, rfl⟩
      rw [hk] at hcm hcl ⊢
      have hk6 : k ≤ 20000 := by omega
      clear hix hb hx hk hcl
      by_cases ho : x = 10
      · rw [decide_eq_true ho] at hod
        rw [hod, if_pos rfl] at hcm
        have HCM := Lib.hid hcm
        have t3 : ((x : Int) == 10) = true := by rw [ho]; rfl
        clear ho hcm hod
        go_wp2_with fail
        go_roundg (s.length - (i + 1))
        case measure => have := HG.out; omega
        case rel => exact ⟨i + 1, hlt, rfl, by go_num, by rw [HCM.out]; go_num, HKR.out⟩
      · rw [decide_eq_false ho] at hod
        rw [hod, if_neg (by decide)] at hcm
        have HCM := Lib.hid hcm
        have t3 : ((x : Int) == 10) = false := by rw [beq_eq_false_iff_ne]; omega
        clear ho hcm hod
        go_wp2_with fail
        go_roundg (s.length - (i + 1))
        case measure => have := HG.out; omega
        case rel => exact ⟨i + 1, hlt, rfl, by go_num, by rw [HCM.out]; rfl, HKR.out⟩
    · obtain rfl : i = s.length := by omega
      have ti : ¬ (s.length : Int) < (s.length : Int) := by omega
      rw [List.take_length, HENDS.out]
      have hsr := HKR.out.size
      have HKW := Lib.hid (HK4.out.trans' HKR.out)
      have hea := (HEA4.out.kept0 HKR.out).mono (T := fun k => k < wr.heap.size) fun k hk _ => hk
      have heb := (HEB4.out.kept0 HKR.out).mono (T := fun k => k < wr.heap.size) fun k hk _ => hk
      have HEAr := Lib.hid hea
      have HEBr := Lib.hid heb
      have HEA5 := Lib.hid (hea.kept0 ((Kept.refl wr NoB).alloc (.cells #[] 35)))
      have HEB5 := Lib.hid (heb.kept0 ((Kept.refl wr NoB).alloc (.cells #[] 35)))
      have HMADE := Lib.hid (RowE.made0 wr (fun k => wr.heap.size ≤ k) (Nat.le_refl _))
      clear hea heb HEA4 HEB4
      go_wp2_with (at_builtin; refine wpList_appE (W := wr.alloc (.cells #[] 35)) rfl _ _ rfl (fun k => wr.heap.size ≤ k) (fun k => k < wr.heap.size) (.slice (some ⟨wr.heap.size, 0, none⟩) 0 0) [] la A1 na c1 rfl rfl HMADE.out HEA5.out (fun k hk => by simp only [World.size_alloc] at hk; omega) (by simp only [List.length_nil]; omega) ?_)
      intro v6 w6 hown6 hk6 hob6
      have hT : ∀ b, OB (.slice (some ⟨wr.heap.size, 0, none⟩) 0 0) b → b = wr.heap.size := fun b hb => by
        have : wr.heap.size = b := by simpa [OB, Value.ownBlock] using hb
        omega
      have HEB6 := Lib.hid (HEB5.out.kept hk6 fun b _ hb hT' => by have := hT b hT'; omega)
      have HK6 := Lib.hid ((HKW.out.alloc (.cells #[] 35)).trans hk6 fun b hb => .inr (by have := hT b hb; have := HKW.out.size; omega))
      have HEA6 := Lib.hid (HEA5.out.kept hk6 fun b _ hb hT' => by have := hT b hT'; omega)
      have hs6 := hk6.size
      rw [World.size_alloc] at hs6
      obtain ⟨A6, c6, rfl, hc6, _⟩ := hown6.ent HNA.out
      have HOWN6 := Lib.hid hown6
      clear hown6 hk6 hob6 hT
      go_wp2_with (at_builtin; refine wpList_appE (W := w6) rfl _ _ rfl (fun k => wr.heap.size ≤ k) (fun k => k < wr.heap.size) (.slice A6 na c6) la lb B1 nb d1 rfl rfl HOWN6.out HEB6.out (fun k hk => by omega) (by have := HNA.out; omega) ?_)
      intro v7 w7 hown7 hk7 hob7
      have HEB7 := Lib.hid (HEB6.out.kept hk7 fun b _ hb hT' => by have := HOWN6.out.2 b hT'; omega)
      have HK7 := Lib.hid (HK6.out.trans hk7 fun b hb => .inr (by have := HOWN6.out.2 b hb; have := HKW.out.size; omega))
      obtain ⟨nn, hnn⟩ : ∃ n, (la ++ lb).length = n := ⟨_, rfl⟩
      have hnn60 : nn ≤ 60 := by rw [← hnn, List.length_append]; have := HNA.out; have := HNB.out; omega
      have HLL : Hid (∀ e ∈ la ++ lb, wfE 100 e) := fun e he => by
        rcases List.mem_append.1 he with h | h
        · exact HLA.out e h
        · exact HLB.out e h
      obtain ⟨A7, c7, rfl, hc7, hea7⟩ := hown7.ent hnn
      have HEA7 := Lib.hid hea7
      clear hown7 hk7 hob7 hea7 hnn
      have q1 : ((na : Int) == (na : Int)) = true := by rw [beq_iff_eq]
      have e3 : strB s ++ strB t = strB (s ++ t) := strB_app s t
      have hszt : (strB t).size = t.length := strB_size t
      have z3 : ¬ (9223372036854775807 < s.length + t.length) := by omega
      have q3 : (s ++ t == s ++ t) = true := by rw [beq_iff_eq]
      have hor : ((((na : Int) == 0) = true) ∧ ((s == []) = true)) ∨ ((((na : Int) == 0) = false) ∧ ((s == []) = false)) := by
        rcases Nat.eq_zero_or_pos na with h | h
        · refine .inl ⟨by rw [h]; rfl, by rw [HNIL.out, decide_eq_true h]⟩
        · refine .inr ⟨by rw [beq_eq_false_iff_ne]; omega, by rw [HNIL.out, decide_eq_false (by omega)]⟩
      have hemp := strB_beq s []
      rcases hor with ⟨q4, q5⟩ | ⟨q4, q5⟩
      case' inl => have q6 : (strB s == (⟨#[]⟩ : ByteArray)) = true := by rw [show (⟨#[]⟩ : ByteArray) = strB [] from rfl, strB_beq]; exact decide_eq_true (beq_iff_eq.1 q5)
      case' inr => have q6 : (strB s == (⟨#[]⟩ : ByteArray)) = false := by rw [show (⟨#[]⟩ : ByteArray) = strB [] from rfl, strB_beq]; exact decide_eq_false (beq_eq_false_iff_ne.1 q5)
      all_goals
        clear hemp
        go_wp2_with fail
        refine (text_calls w7 _ A7 nn c7 100 (la ++ lb) HEA7.out (by omega) (by omega) HLL.out (hp.kept0 HK7.out)).mono ?_
        rw [HAPP.out]
        rintro en w8 ⟨rfl, hk8⟩
        have HK8 := Lib.hid (HK7.out.trans' hk8)
        have HEB8 := Lib.hid (HEB7.out.kept0 hk8)
        clear hk8
        go_wp2_with fail
        refine (text_calls w8 _ B1 nb d1 100 lb HEB8.out (by omega) (by omega) HLB.out (hp.kept0 HK8.out)).mono ?_
        rw [HT.out]
        rintro en w9 ⟨rfl, hk9⟩
        have HK9 := Lib.hid (HK8.out.trans' hk9)
        clear hk9
        go_wp2_with fail
        go_ret
        exact ⟨rfl, HK9.out⟩
theorem logLines_walk (W : World) (a0 : Option Addr) (len0 cap0 : Nat) (a1 : Option Addr) (len1 cap1 : Nat) (w0 : IsEnts W a0 len0 cap0) (w1 : IsEnts W a1 len1 cap1) (hL : laidMetH Tryd.prog Rows.logLinesRow.laid W) (hsh : W.ShapedOpen Tryd.prog) :
    Calls Tryd.prog 3 #[.slice a0 len0 cap0, .slice a1 len1 cap1] W fun en w' => en = .returned (.bool true) ∧ Below W.heap.size W w' := by
  obtain ⟨h0, es, hE, hwE⟩ := w0
  obtain ⟨h1, fs, hF, hwF⟩ := w1
  exact (lines_law W a0 a1 len0 cap0 len1 cap1 es fs hE hF h0 h1 hwE hwF (PowT.of_lines hL)).mono fun _ _ ⟨he, hk⟩ => ⟨he, hk.below⟩
end Go.Proofs.YtammhfnolafknaaDoor
