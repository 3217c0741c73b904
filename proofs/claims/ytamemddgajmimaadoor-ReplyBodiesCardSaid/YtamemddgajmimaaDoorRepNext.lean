/- ReplyNext's walk. -/
import Derived.Test.YtamemddgajmimaaDoorRepX
import Derived.Test.YtamemddgajmimaaDoorRowW
set_option linter.unusedVariables false
set_option linter.unusedSimpArgs false
namespace Go.Proofs.YtamemddgajmimaaDoor
open Go.RowKit Go.Shelf

theorem IsStrs.len_le {w : World} {a : Option Addr} {len cap : Nat} {zs : List ByteArray} (h : IsStrs w a len cap zs) : len ≤ 9223372036854775807 := by
  rcases h with ⟨rfl, rfl, rfl, rfl⟩ | ⟨x, rfl, hl, hm, _⟩
  · omega
  · unfold maxLen at hm; omega
theorem decide_self {xs : List (List UInt8)} : decide (xs = xs) = true := decide_eq_true rfl
theorem ob_far {w : World} {g : Nat} {cs : Array Value} {v : Value} {xs : List Value} {S : Nat → Prop} (hb : Blk w g 51 cs) (hr : Row w 9 S v xs) : ¬ OB v g := fun h => hr.ne_blk hb (by decide) h
theorem MkSt.blk {w : World} {g : Nat} {proto : Int} {st : Option Rp} {v : Value} (h : MkSt w g proto st v) : ∃ cs, Blk w g 51 cs := by
  cases st with
  | none => exact ⟨_, h.1⟩
  | some q => exact ⟨_, h.2.2.1⟩
theorem MkSt.alloc {w : World} {g : Nat} {proto : Int} {st : Option Rp} {v : Value} (h : MkSt w g proto st v) (o : Obj) : MkSt (w.alloc o) g proto st v := h.kept0 ((Kept.refl w NoB).alloc o)
theorem step_len {w : World} {g : Nat} {p : Int} {st : Option Rp} {v : Value} {s : List UInt8} (h : MkSt w g p st v) : (rpV (stepM p st s).1).2.length ≤ 21 := by
  cases st with
  | none =>
    unfold stepM
    cases statusL p s with
    | none => simp [rpV]
    | some x =>
      obtain ⟨c, m, t⟩ := x
      cases m <;> simp [rpV]
  | some q =>
    obtain ⟨c, ls⟩ := q
    have hl := h.2.1
    unfold stepM
    by_cases h1 : p = 1
    · simp only [h1, if_true]
      cases statusL 1 s with
      | none => simp [rpV]
      | some x =>
        obtain ⟨c', m, t⟩ := x
        simp only
        by_cases h2 : c' = c <;> by_cases h3 : 20 ≤ ls.length <;> cases m <;> simp [h2, h3, rpV] <;> omega
    · simp only [h1, if_false]
      cases lastF p c s with
      | none => by_cases h3 : 20 ≤ ls.length <;> simp [h3, rpV]
      | some t => by_cases h3 : 20 ≤ ls.length <;> simp [h3, rpV] <;> omega
/-- Behind i lines of the first row. -/
def NxA (W : World) (g : Nat) (p : Int) (na gk : Nat) (vi : Value) (wr : World) : Prop :=
  ∃ i st v, i ≤ na ∧ gk = na - i ∧ vi = .int .i64 ((i : Nat) : Int) ∧ MkSt wr g p st v ∧ (∀ k, OB v k → W.heap.size ≤ k) ∧ Kept W wr (fun k => k = g)
/-- Behind i lines of the second one: both makers stand alike. -/
def NxB (W : World) (g o : Nat) (p : Int) (nb gk : Nat) (vi : Value) (wr : World) : Prop :=
  ∃ i st v u, i ≤ nb ∧ gk = nb - i ∧ vi = .int .i64 ((i : Nat) : Int) ∧ MkSt wr g p st v ∧ MkSt wr o p st u ∧ (∀ k, OB v k → W.heap.size ≤ k) ∧ (∀ k, OB u k → W.heap.size ≤ k) ∧ (∀ k, OB v k → ¬ OB u k) ∧ Kept W wr (fun k => k = g ∨ k = o)
set_option maxHeartbeats 4000000 in
set_option maxRecDepth 100000 in
theorem next_law (w : World) (p : Int) (S T : Nat → Prop) (A B : Option Addr) (n c n' c' : Nat) (la lb : List (List UInt8)) (hA : Reads w S A n (strs la)) (hn : n ≤ 9223372036854775807) (hela : ∀ x ∈ la, x.length ≤ 9223372036854775807) (hB : Reads w T B n' (strs lb)) (hn' : n' ≤ 9223372036854775807) (helb : ∀ x ∈ lb, x.length ≤ 9223372036854775807) (hm : MaxI w) :
    Calls Tryd.prog 6 #[.int .i64 p, .slice A n c, .slice B n' c'] w fun en w' => en = .returned (.bool true) ∧ Kept w w' NoB := by
  have HA := Lib.hid hA
  have HB := Lib.hid hB
  have HELA := Lib.hid hela
  have HELB := Lib.hid helb
  clear hA hB hela helb
  go_enter Tryd.func6, Tryd.ntmps6
  go_wp2_with fail
  refine (shown_calls w hm).mono ?_
  rintro en w1 ⟨rfl, hk1⟩
  have HK1 := Lib.hid hk1
  have hsz1 := hk1.size
  clear hk1
  go_wp2_with fail
  refine (new_calls w1 p).mono ?_
  rintro en w2 ⟨rfl, hw2⟩
  have h2 := MkSt.new w1 p
  rw [← hw2] at h2
  have hk2 : Kept w1 w2 NoB := by rw [hw2]; exact (Kept.refl _ _).alloc _
  have H2 := Lib.hid h2
  have HK2 := Lib.hid hk2
  have hg2 := h2.lt
  clear hw2 h2 hk2
  go_wp2_with fail
  refine (new_calls w2 p).mono ?_
  rintro en w3 ⟨rfl, hw3⟩
  have h3 := MkSt.new w2 p
  rw [← hw3] at h3
  have hk3 : Kept w2 w3 NoB := by rw [hw3]; exact (Kept.refl _ _).alloc _
  have HO3 := Lib.hid h3
  have HG3 := Lib.hid (H2.out.kept0 hk3)
  have HK3 := Lib.hid ((HK1.out.trans' HK2.out).trans' hk3)
  have ho3 := h3.lt
  have hgo : ¬ w1.heap.size = w2.heap.size := by omega
  clear hw3 h3 hk3
  go_wp2_with fail
  refine (short_calls w3 S A n c la (HA.out.kept0 HK3.out) hn HELA.out).mono ?_
  rintro en w4 ⟨va, rfl, hra, hk4⟩
  have HRA4 := Lib.hid hra
  have HK4 := Lib.hid (HK3.out.trans' hk4)
  have HG4 := Lib.hid (HG3.out.kept0 hk4)
  have HO4 := Lib.hid (HO3.out.kept0 hk4)
  clear hra hk4
  go_wp2_with fail
  refine (short_calls w4 T B n' c' lb (HB.out.kept0 HK4.out) hn' HELB.out).mono ?_
  rintro en W ⟨vb, rfl, hrb, hk5⟩
  have HK5 := Lib.hid (HK4.out.trans' hk5)
  have hg5 := HG4.out.kept0 hk5
  have ho5 := HO4.out.kept0 hk5
  have hra5 := HRA4.out.kept0 hk5
  obtain ⟨fa, hfa⟩ : ∃ f, few40 la = f := ⟨_, rfl⟩
  obtain ⟨fb, hfb⟩ : ∃ f, few40 lb = f := ⟨_, rfl⟩
  have hfal : fa.length ≤ 40 := by rw [← hfa]; exact few40_len la
  have hfbl : fb.length ≤ 40 := by rw [← hfb]; exact few40_len lb
  have HFAE : Hid (∀ x ∈ fa, x.length ≤ 200) := by rw [← hfa]; exact few40_el la
  have HFBE : Hid (∀ x ∈ fb, x.length ≤ 200) := by rw [← hfb]; exact few40_el lb
  rw [hfa] at hra5
  rw [hfb] at hrb
  have hgb := hg5.blk
  have hob := ho5.blk
  obtain ⟨gcs, hgb⟩ := hgb
  obtain ⟨ocs, hob⟩ := hob
  have hagN := ob_far hgb hra5
  have haoN := ob_far hob hra5
  have hbgN := ob_far hgb hrb
  have hboN := ob_far hob hrb
  obtain ⟨A', ca, rfl, hca, hrA⟩ := hra5.readsO (n := fa.length) (strs_length fa)
  obtain ⟨B', cb, rfl, hcb, hrB⟩ := hrb.readsO (n := fb.length) (strs_length fb)
  have HRA := Lib.hid hrA
  have HRB := Lib.hid hrB
  have HAGN := Lib.hid hagN
  have HAON := Lib.hid haoN
  have HBGN := Lib.hid hbgN
  have HBON := Lib.hid hboN
  have HG5 := Lib.hid hg5
  have HO5 := Lib.hid ho5
  have hgl := hg5.lt
  have hol := ho5.lt
  clear hrb hk5 hg5 ho5 hra5 hfa hfb hgb hob hagN haoN hbgN hboN hrA hrB
  go_wp2_with fail
  go_loopg [10] fa.length (fun gk vi wr => NxA W w1.heap.size p fa.length gk vi wr)
  case atStart => exact ⟨0, none, .slice none 0 0, Nat.zero_le _, rfl, rfl, HG5.out, fun k hk => absurd hk ob_nil, Kept.refl _ _⟩
  case round =>
    obtain ⟨i, st, v, hi, hgk, rfl, hmk, hv, hkr⟩ := hrel
    have HG := Lib.hid hgk
    have HMK := Lib.hid hmk
    have HV := Lib.hid hv
    have HKR := Lib.hid hkr
    have HSR := hkr.size
    clear hgk hmk hv hkr
    rcases Nat.lt_or_ge i fa.length with hlt | hge
    · have hrd := HRA.out.kept HKR.out (fun b _ hb e => HAGN.out (e ▸ hb))
      obtain ⟨ad, u, hAd, hu, hcell⟩ := hrd.at_ hlt
      subst hAd
      rw [strs_at fa i hlt] at hu
      injection hu with hu
      subst hu
      have hxl := HFAE.out fa[i] (List.getElem_mem hlt)
      obtain ⟨x, hx⟩ : ∃ x, fa[i] = x := ⟨_, rfl⟩
      rw [hx] at hcell hxl
      obtain ⟨r, hr⟩ : ∃ r, stepM p st x = r := ⟨_, rfl⟩
      have HR := Lib.hid hr
      have hmr : MaxI wr := hm.kept0 (HK5.out.trans HKR.out fun b hb => .inr (by rw [hb]; exact hsz1))
      clear hx hr hrd
      go_wp2_with fail
      refine (line_at wr _ p st v x false _ r rfl HR.out HMK.out (by omega) hmr (by simp)).mono ?_
      rintro en wq ⟨vr, v1, rfl, hrq, hq, hkq, hoq, _⟩
      obtain ⟨A1, m1, c1, rfl⟩ := hrq.slice
      have HQ := Lib.hid hq
      have HVQ : Hid (∀ k, OB v1 k → W.heap.size ≤ k) := fun k hk => (hoq k hk).elim (HV.out k) fun h => by omega
      have HKQ := Lib.hid (HKR.out.trans hkq fun b hb => hb.imp id fun h => HV.out b h)
      clear hrq hq hkq hoq hmr
      go_wp2_with fail
      go_roundg (fa.length - (i + 1))
      case measure => have := HG.out; omega
      case rel => exact ⟨i + 1, r.2.2, v1, hlt, rfl, by go_num, HQ.out, HVQ.out, HKQ.out⟩
    · obtain rfl : i = fa.length := by omega
      go_wp2_with fail
      refine (busy_calls wr _ p st v HMK.out).mono ?_
      rintro en wq ⟨rfl, rfl⟩
      have HKF := Lib.hid (HK5.out.trans HKR.out fun b hb => .inr (by rw [hb]; exact hsz1))
      cases st with
      | some q =>
        simp only [Option.isSome_some]
        go_wp2_with fail
        go_ret
        exact ⟨rfl, HKF.out⟩
      | none =>
        simp only [Option.isSome_none]
        have hvn := HMK.out.2
        subst hvn
        have hO6 := HO5.out.kept HKR.out (fun e => hgo e.symm) (fun b hb => absurd hb ob_nil)
        have HO6 := Lib.hid hO6
        clear hO6
        go_wp2_with fail
        go_loopg [11] fb.length (fun gk vi wr' => NxB W w1.heap.size w2.heap.size p fb.length gk vi wr')
        case atStart => exact ⟨0, none, .slice none 0 0, .slice none 0 0, Nat.zero_le _, rfl, rfl, HMK.out, HO6.out, fun k hk => absurd hk ob_nil, fun k hk => absurd hk ob_nil, fun k hk => absurd hk ob_nil, HKR.out.mono fun _ h => .inl h⟩
        case round =>
          obtain ⟨j, st, v, u, hj, hgk2, rfl, hmk, hmo, hv, hu, hvu, hkr2⟩ := hrel
          have HG2 := Lib.hid hgk2
          have HMG := Lib.hid hmk
          have HMO := Lib.hid hmo
          have HV2 := Lib.hid hv
          have HU2 := Lib.hid hu
          have HVU := Lib.hid hvu
          have HKR2 := Lib.hid hkr2
          have HSR2 := hkr2.size
          have HK0 := Lib.hid (HK5.out.trans hkr2 fun b hb => .inr (by
            rcases hb with rfl | rfl
            · exact hsz1
            · omega))
          clear hgk2 hmk hmo hv hu hvu hkr2
          rcases Nat.lt_or_ge j fb.length with hlt | hge
          · have hrd := HRB.out.kept HKR2.out (fun b _ hb e => by
              rcases e with rfl | rfl
              · exact HBGN.out hb
              · exact HBON.out hb)
            obtain ⟨ad, y, hAd, hy, hcell⟩ := hrd.at_ hlt
            subst hAd
            rw [strs_at fb j hlt] at hy
            injection hy with hy
            subst hy
            have hxl := HFBE.out fb[j] (List.getElem_mem hlt)
            obtain ⟨x, hx⟩ : ∃ x, fb[j] = x := ⟨_, rfl⟩
            rw [hx] at hcell hxl
            obtain ⟨rr, rn, rs, hr⟩ : ∃ rr rn rs, stepM p st x = (rr, rn, rs) := ⟨_, _, _, rfl⟩
            have HR := Lib.hid hr
            obtain ⟨_, hbe, hbs, hbw, _⟩ := HRB.out.2 (by omega)
            injection hbe with hbe
            subst hbe
            have HBS := Lib.hid hbs
            clear hx hr hrd
            go_wp2_with fail
            refine (line_at wr _ p st v x false _ _ rfl HR.out HMG.out (by omega) (hm.kept0 HK0.out) (by simp)).mono ?_
            rintro en wq ⟨vr, v1, rfl, hrq, hq, hkq, hoq, hoqr⟩
            obtain ⟨A1, m1, k1, rfl⟩ := hrq.slice
            have hnOV : ∀ b, OB u b → ¬ (b = w1.heap.size ∨ OB v b) := fun b hb e => by
              rcases e with rfl | e
              · exact absurd (HU2.out _ hb) (by omega)
              · exact HVU.out _ e hb
            have hnO : ¬ (w2.heap.size = w1.heap.size ∨ OB v w2.heap.size) := by
              rintro (e | e)
              · exact hgo e.symm
              · exact absurd (HV2.out _ e) (by omega)
            have HMO1 := Lib.hid (HMO.out.kept hkq hnO hnOV)
            have HMG1 := Lib.hid hq
            have HRQ1 := Lib.hid hrq
            have hcell1 := hkq.cell hcell (by
              rw [block_add]
              rintro (e | e)
              · exact HBGN.out (e ▸ HBS.out)
              · exact absurd (HV2.out _ e) (by omega))
            have HKQ := Lib.hid hkq
            have HOQ := Lib.hid hoq
            have HOQR := Lib.hid hoqr
            have hqs := hkq.size
            have hblt : (ad.add j).block < wq.heap.size := by rw [block_add]; omega
            have hcell2 := ((Kept.refl wq NoB).alloc (.cells #[.string (strB (rpV rr).1), .slice A1 m1 k1, .slice none 0 0] 30)).cell hcell1 (fun x => x)
            have hkA : Kept wq (wq.alloc (.cells #[.string (strB (rpV rr).1), .slice A1 m1 k1, .slice none 0 0] 30)) NoB := (Kept.refl wq NoB).alloc _
            have HKA := Lib.hid hkA
            have HXB := Lib.hid (Blk.new wq 30 #[.string (strB (rpV rr).1), .slice A1 m1 k1, .slice none 0 0])
            clear hrq hq hkq hoq hoqr hnOV hnO hcell hkA
            go_wp2_with fail
            refine (line_at _ _ p st u x false _ _ rfl HR.out (HMO1.out.kept0 HKA.out) (by omega) (hm.kept0 (((HK0.out.trans HKQ.out fun b hb => .inr (by
              rcases hb with rfl | hb
              · exact hsz1
              · have := HV2.out _ hb; have := HK5.out.size; omega))).trans' HKA.out)) (by simp)).mono ?_
            rintro en wz ⟨ur, u1, rfl, hrz, hz, hkz, hoz, hozr⟩
            obtain ⟨A2, m2, k2, rfl⟩ := hrz.slice
            have hsA : (wq.alloc (.cells #[.string (strB (rpV rr).1), .slice A1 m1 k1, .slice none 0 0] 30)).heap.size = wq.heap.size + 1 := World.size_alloc _ _
            have hkqz : Kept wq wz (fun k => k = w2.heap.size ∨ OB u k) := (HKA.out.of_no (S := fun k => k = w2.heap.size ∨ OB u k)).trans hkz fun b hb => .inl hb
            have huq : ∀ k, OB u k → k < wq.heap.size := fun k hk => by have := HMO1.out.obl k hk; exact this
            have hnX : ¬ (wq.heap.size = w2.heap.size ∨ OB u wq.heap.size) := by
              rintro (e | e)
              · omega
              · exact absurd (huq _ e) (Nat.lt_irrefl _)
            have HXB2 := Lib.hid (HXB.out.kept hkz hnX)
            have hdis : ∀ b, OB v1 b → ¬ (b = w2.heap.size ∨ OB u b) := fun b hb e => by
              rcases e with rfl | e
              · rcases HOQ.out _ hb with h | h
                · exact absurd (HV2.out _ h) (by omega)
                · omega
              · rcases HOQ.out _ hb with h | h
                · exact HVU.out _ h e
                · exact absurd (HMO.out.obl _ e) (by omega)
            have HMG2 := Lib.hid (HMG1.out.kept hkqz (fun e => by rcases e with e | e; exact hgo e; exact absurd (HU2.out _ e) (by omega)) hdis)
            have HRQ2 := Lib.hid (HRQ1.out.kept_ hkqz (fun b hb e => by
              rcases e with rfl | e
              · rcases HOQR.out _ hb with h | h
                · exact absurd (HV2.out _ h) (by omega)
                · omega
              · rcases HOQR.out _ hb with h | h
                · exact HVU.out _ h e
                · exact absurd (HMO.out.obl _ e) (by omega)))
            have HMO2 := Lib.hid hz
            have HRZ := Lib.hid hrz
            have HV3 : Hid (∀ k, OB v1 k → W.heap.size ≤ k) := fun k hk => (HOQ.out k hk).elim (HV2.out k) fun h => by omega
            have HU3 : Hid (∀ k, OB u1 k → W.heap.size ≤ k) := fun k hk => (hoz k hk).elim (HU2.out k) fun h => by omega
            have HVU3 : Hid (∀ k, OB v1 k → ¬ OB u1 k) := fun k hk hk2 => by
              have h1 := HMG1.out.obl k hk
              rcases hoz k hk2 with h | h
              · exact hdis k hk (.inr h)
              · omega
            have HKW : Hid (Kept W wz (fun k => k = w1.heap.size ∨ k = w2.heap.size)) := by
              refine (HKR2.out.trans HKQ.out fun b hb => ?_).trans hkqz fun b hb => ?_
              · rcases hb with rfl | hb
                · exact .inl (.inl rfl)
                · exact .inr (HV2.out _ hb)
              · rcases hb with rfl | hb
                · exact .inl (.inr rfl)
                · exact .inr (HU2.out _ hb)
            have hws := HKW.out.size
            obtain ⟨x0, x1, x2, _, _, _⟩ := HXB2.out.cells3
            have hxlt := HXB2.out.lt
            obtain ⟨A1', c1', hv1', hc1', hR1⟩ := HRQ2.out.reads
            injection hv1' with e1 e2 e3
            subst e1 e2 e3
            obtain ⟨A2', c2', hv2', hc2', hR2⟩ := HRZ.out.reads
            injection hv2' with e1 e2 e3
            subst e1 e2 e3
            have HR1 := Lib.hid hR1
            have HR2 := Lib.hid hR2
            clear hrz hz hkz hoz hozr hkqz huq hnX hdis hR1 hR2 hcell1 hcell2
            have hll : (strs (rpV rr).2).length ≤ 140737488355328 := by
              rw [strs_length]
              have := step_len (p := p) (s := x) HMG.out
              rw [HR.out] at this
              simp only at this
              omega
            have HWW := Lib.hid ((HK5.out.trans HKW.out fun b hb => .inr (by
              rcases hb with rfl | rfl
              · exact hsz1
              · omega)))
            go_wp2_with fail
            refine (same11_calls _ _ _ A1 A2 _ _ _ _ (rpV rr).2 (rpV rr).2 (rpV rr).1 (rpV rr).1 (HR1.out.kept0 ((Kept.refl _ _).alloc _)) (HR2.out.kept0 ((Kept.refl _ _).alloc _)) hll hll).mono ?_
            rw [decide_self, beq_self_eq_true, Bool.and_self]
            rintro en wy ⟨rfl, hky⟩
            have HY := Lib.hid hky
            have hbm := busy_calls wy w1.heap.size p rs _ ((HMG2.out.alloc _).kept0 hky)
            have hbo := busy_calls wy w2.heap.size p rs _ ((HMO2.out.alloc _).kept0 hky)
            obtain ⟨b1, hb1⟩ : ∃ b, rs.isSome = b := ⟨_, rfl⟩
            obtain ⟨b2, hb2⟩ : ∃ b, rr.isSome = b := ⟨_, rfl⟩
            rw [hb1] at hbm hbo
            rw [hb2]
            have HBM := Lib.hid hbm
            have HBO := Lib.hid hbo
            clear hky hbm hbo hb1 hb2
            go_wp2_with fail
            refine HBM.out.mono ?_
            rintro en wx ⟨rfl, rfl⟩
            go_wp2_with fail
            refine HBO.out.mono ?_
            rintro en wx ⟨rfl, rfl⟩
            go_wp2_with fail
            go_roundg (fb.length - (j + 1))
            case measure => have := HG2.out; omega
            case rel => exact ⟨j + 1, rs, _, _, hlt, rfl, by go_num, (HMG2.out.alloc _).kept0 HY.out, (HMO2.out.alloc _).kept0 HY.out, HV3.out, HU3.out, HVU3.out, (HKW.out.alloc _).trans' HY.out⟩
          · obtain rfl : j = fb.length := by omega
            go_wp2_with fail
            go_ret
            exact ⟨rfl, HK0.out⟩
theorem replyNext_walk (W : World) (a0 : Int) (a1 : Option Addr) (len1 cap1 : Nat) (z1 : List ByteArray) (a2 : Option Addr) (len2 cap2 : Nat) (z2 : List ByteArray) (w0 : (Lit.int .i64 a0).wf = true) (w1 : IsStrs W a1 len1 cap1 z1) (w2 : IsStrs W a2 len2 cap2 z2) (hsh : W.ShapedOpen Tryd.prog) :
    Calls Tryd.prog 6 #[.int .i64 a0, .slice a1 len1 cap1, .slice a2 len2 cap2] W fun en w' => en = .returned (.bool true) ∧ Below W.heap.size W w' := by
  obtain ⟨hr1, hc1, hl1, hs1⟩ := w1.reads
  obtain ⟨hr2, hc2, hl2, hs2⟩ := w2.reads
  have e : ∀ zs : List ByteArray, zs.map Value.string = strs (zs.map fun s => s.data.toList) := fun zs => by
    unfold strs
    rw [List.map_map]
    exact List.map_congr_left fun s _ => by simp [strB_data]
  have el : ∀ zs : List ByteArray, (∀ s ∈ zs, s.size ≤ maxLen) → ∀ x ∈ zs.map (fun s => s.data.toList), x.length ≤ 9223372036854775807 := fun zs h x hx => by
    obtain ⟨s, hs, rfl⟩ := List.mem_map.1 hx
    have := h s hs
    unfold maxLen at this
    rw [Array.length_toList]
    exact this
  rw [e] at hr1 hr2
  refine (next_law W a0 _ _ a1 a2 len1 cap1 len2 cap2 _ _ hr1 (w1.len_le) (el _ hs1) hr2 (w2.len_le) (el _ hs2) (MaxI.of_shape hsh)).mono fun _ _ ⟨he, hk⟩ => ⟨he, hk.below⟩
end Go.Proofs.YtamemddgajmimaaDoor
