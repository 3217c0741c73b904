/- ReplyBodies' walk. -/
import Derived.Test.YtamemddgajmimaaDoorStuff5
import Derived.Test.YtamemddgajmimaaDoorRepNext
set_option linter.unusedVariables false
set_option linter.unusedSimpArgs false
namespace Go.Proofs.YtamemddgajmimaaDoor
open Go.RowKit Go.Shelf

/-! ### Plain -/
def putL (s : List UInt8) : List UInt8 := if s.head? = some 46 then 46 :: s else s
def outL (ls : List (List UInt8)) : List UInt8 := ls.flatMap (· ++ [13, 10])
theorem outL_succ (ls : List (List UInt8)) {i : Nat} (h : i < ls.length) : outL (ls.take (i + 1)) = outL (ls.take i) ++ (ls[i] ++ [13, 10]) := by
  unfold outL
  rw [List.take_succ_eq_append_getElem h, List.flatMap_append]
  simp
theorem put_drop (s : List UInt8) : dropDot (putL s) = s := by
  unfold putL
  rcases s with _ | ⟨c, r⟩
  · rfl
  · by_cases h : c = 46
    · subst h
      rw [List.head?_cons, if_pos rfl, dropDot_dot]
    · rw [if_neg (by simpa using h), dropDot_no r h]
theorem put_ne (s : List UInt8) : putL s ≠ [46] := by
  unfold putL
  rcases s with _ | ⟨c, r⟩
  · simp
  · by_cases h : c = 46
    · subst h
      rw [List.head?_cons, if_pos rfl]
      simp
    · rw [if_neg (by simpa using h)]
      simp [h]
theorem put_len (s : List UInt8) : (putL s).length ≤ s.length + 1 := by
  unfold putL
  split <;> simp
theorem body_put (l s : List UInt8) : bodyL 1000 l (putL s) = if 1000 < l.length + (s ++ [13, 10]).length then (false, 72, l) else (false, 0, l ++ (s ++ [13, 10])) := by
  unfold bodyL
  rw [if_neg (put_ne s), put_drop]
theorem okHere : statusL 2 [43, 79, 75, 32, 104, 101, 114, 101] = some ([43], false, [104, 101, 114, 101]) := by decide +kernel
theorem errNo : statusL 2 [45, 69, 82, 82, 32, 110, 111] = some ([45], false, [110, 111]) := by decide +kernel
theorem okStep : stepM 2 none [43, 79, 75, 32, 104, 101, 114, 101] = (some ([43], [[104, 101, 114, 101]]), 0, none) := by simp [stepM, okHere]
theorem outL_len : ∀ ls : List (List UInt8), (∀ x ∈ ls, x.length ≤ 200) → (outL ls).length ≤ 202 * ls.length
  | [], _ => by simp [outL]
  | x :: ls, h => by
    have ih := outL_len ls fun y hy => h y (List.mem_cons_of_mem _ hy)
    have hx := h x (List.mem_cons_self ..)
    have e : outL (x :: ls) = (x ++ [13, 10]) ++ outL ls := by unfold outL; rw [List.flatMap_cons]
    rw [e, List.length_append, List.length_append, List.length_cons, List.length_cons, List.length_cons, List.length_nil]
    omega
/-! ### The walk -/
def BoS (W : World) (g q q2 : Nat) (t : List UInt8) (v : Value) (ls : List (List UInt8)) (N gk : Nat) (v16 : Value) (wr : World) : Prop :=
  ∃ i vb n vb2 n2, i ≤ N ∧ gk = N - i ∧ v16 = .int .i64 ((i : Nat) : Int) ∧ MkB wr g [43] t v q (outL (ls.take i)) n vb ∧ BdR wr 59 q2 1000 (outL (ls.take i)) n2 vb2 ∧ (outL (ls.take i)).length ≤ 1000 ∧ n ≤ i ∧ n2 ≤ i ∧
    (∀ k, OB vb k → W.heap.size ≤ k) ∧ (∀ k, OB vb2 k → W.heap.size ≤ k) ∧ (∀ k, OB vb k → ¬ OB vb2 k) ∧ Kept W wr (fun k => k = g ∨ k = q ∨ k = q2)
def TxtS (w0 : World) (ls : List (List UInt8)) (N gk : Nat) (v26 v27 : Value) (wr : World) : Prop :=
  ∃ i, i ≤ N ∧ gk = N - i ∧ v27 = .int .i64 ((i : Nat) : Int) ∧ v26 = .string (strB (outL (ls.take i))) ∧ Kept w0 wr NoB
set_option maxHeartbeats 8000000 in
set_option maxRecDepth 100000 in
theorem bodies_law (w : World) (S : Nat → Prop) (A : Option Addr) (n c : Nat) (la : List (List UInt8)) (hA : Reads w S A n (strs la)) (hn : n ≤ 9223372036854775807) (hela : ∀ x ∈ la, x.length ≤ 9223372036854775807) (hm : MaxI w) :
    Calls Tryd.prog 5 #[.slice A n c] w fun en w' => en = .returned (.bool true) ∧ Kept w w' NoB := by
  have HA := Lib.hid hA
  have HELA := Lib.hid hela
  clear hA hela
  go_enter Tryd.func5, Tryd.ntmps5
  go_wp2_with fail
  refine (shown_calls w hm).mono ?_
  rintro en w1 ⟨rfl, hk1'⟩
  have HK1 := Lib.hid hk1'
  have hsz1 := hk1'.size
  clear hk1'
  go_wp2_with fail
  refine (new_calls w1 2).mono ?_
  rintro en w2 ⟨rfl, hw2⟩
  have h2 := MkSt.new w1 2
  rw [← hw2] at h2
  have hs2 : w2.heap.size = w1.heap.size + 1 := by rw [hw2]; simp
  have hk2 : Kept w1 w2 NoB := by rw [hw2]; exact (Kept.refl _ _).alloc _
  have H2 := Lib.hid h2
  have HK2 := Lib.hid (HK1.out.trans' hk2)
  clear hw2 h2 hk2
  go_wp2_with fail
  refine (new_calls w2 2).mono ?_
  rintro en w3 ⟨rfl, hw3⟩
  have h3 := MkSt.new w2 2
  rw [← hw3, hs2] at h3
  rw [hs2]
  have hs3 : w3.heap.size = w1.heap.size + 2 := by rw [hw3, World.size_alloc, hs2]
  have hk3 : Kept w2 w3 NoB := by rw [hw3]; exact (Kept.refl _ _).alloc _
  have H3 := Lib.hid h3
  have H23 := Lib.hid (H2.out.kept0 hk3)
  have HK3 := Lib.hid (HK2.out.trans' hk3)
  clear hw3 h3 hk3
  go_wp2_with fail
  refine (short_calls w3 S A n c la (HA.out.kept0 HK3.out) hn HELA.out).mono ?_
  rintro en W ⟨va, rfl, hra, hk4⟩
  have HKW := Lib.hid (HK3.out.trans' hk4)
  have HG := Lib.hid (H23.out.kept0 hk4)
  have HO := Lib.hid (H3.out.kept0 hk4)
  obtain ⟨fl, hfl⟩ : ∃ f, few40 la = f := ⟨_, rfl⟩
  have hfll : fl.length ≤ 40 := by rw [← hfl]; exact few40_len la
  have HFE : Hid (∀ x ∈ fl, x.length ≤ 200) := by rw [← hfl]; exact few40_el la
  rw [hfl] at hra
  have hgl := HG.out.lt
  have hol := HO.out.lt
  obtain ⟨A', ca, rfl, hca, hrA⟩ := hra.readsN (n := fl.length) (strs_length fl)
  have HRA := Lib.hid (hrA.mono (T := fun k => w1.heap.size + 2 ≤ k) fun k _ hk => by rw [← hs3]; exact hk)
  clear hra hk4 hrA hfl
  by_cases hcut : 30 < fl.length
  · have hci : (30 : Int) < (fl.length : Int) := by omega
    have hrl := HRA.out.take (k := 30) (by omega)
    obtain ⟨l, hl⟩ : ∃ l, fl.take 30 = l := ⟨_, rfl⟩
    have htk : (strs fl).take 30 = strs l := by rw [← hl]; simp [strs, List.map_take]
    rw [htk] at hrl
    have hln : l.length = 30 := by rw [← hl, List.length_take]; omega
    have HLE : Hid (∀ x ∈ l, x.length ≤ 200) := fun x hx => HFE.out x (by rw [← hl] at hx; exact List.mem_of_mem_take hx)
    have HRL := Lib.hid hrl
    have HLN := Lib.hid hln
    clear hcut hl htk hrl hln
    go_wp2_with fail
    refine (refNew_calls W 1000).mono ?_
    rintro en W5 ⟨rfl, hW5⟩
    have hk5 : Kept W W5 NoB := by rw [hW5]; exact (Kept.refl _ _).alloc _
    have hb5 := Blk.new W 59 #[.slice none 0 0, .int .i64 0, .int .i64 ((1000 : Nat) : Int)]
    have hs5 : W5.heap.size = W.heap.size + 1 := by rw [hW5]; simp
    rw [← hW5] at hb5
    have HK5 := Lib.hid (HKW.out.trans' hk5)
    have HG5 := Lib.hid (HG.out.kept0 hk5)
    have HO5 := Lib.hid (HO.out.kept0 hk5)
    have HQ5 := Lib.hid hb5
    have HR5 := Lib.hid ((HRL.out.mono (T := fun k => w1.heap.size + 2 ≤ k ∧ k < W.heap.size) fun k hk h => ⟨h, hk⟩).kept0 hk5)
    clear hW5 hk5 hb5
    go_wp2_with fail
    refine (line_plus W5 w1.heap.size _ _ _ HG5.out (by decide) (hm.kept0 HK5.out) okHere).mono ?_
    rintro en w6 ⟨rfl, v, q, hmk, hk6, hv6, hq6⟩
    have HMK6 := Lib.hid hmk
    have hk6w := hk6.size
    have HK6 := Lib.hid (HK5.out.trans hk6 fun b hb => .inr (by rw [hb]; exact hsz1))
    have HQ6 := Lib.hid (HQ5.out.kept hk6 (by omega))
    have HO6 := Lib.hid (HO5.out.kept hk6 (by omega) (fun b hb => absurd hb ob_nil))
    have HR6 := Lib.hid (HR5.out.kept hk6 (fun b _ hb e => by have := hb.1; omega))
    have HV6 := Lib.hid hv6
    clear hmk hk6 hv6 HR5 HO5 HQ5 HG5
    go_wp2_with fail
    refine (line_at _ (w1.heap.size + 1) 2 none _ _ false _ _ rfl okStep (HO6.out.kept0 ((Kept.refl _ _).alloc _)) (by decide) (hm.kept0 (HK6.out.alloc _)) (by decide)).mono ?_
    rintro en w7 ⟨vr7, v7, rfl, hr7, h7, hk7, ho7, _⟩
    simp only [rpV, Option.getD_some, Option.isSome_some] at hr7 ⊢
    obtain ⟨A7, c7, rfl, hc7, _⟩ := hr7.readsN (n := 1) rfl
    obtain rfl : v7 = .slice none 0 0 := h7.2
    have hkA : Kept w6 w7 (fun k => k = w1.heap.size + 1) := ((Kept.refl w6 _).alloc _).trans hk7 fun b hb => .inl (hb.elim id fun h => absurd h ob_nil)
    have HK7 := Lib.hid (HK6.out.trans hkA fun b hb => .inr (by omega))
    have HMK7 := Lib.hid (HMK6.out.kept hkA (by omega) (by omega) (fun b hb => by have := HV6.out b hb; omega) (fun b hb => absurd hb ob_nil))
    have HQ7 := Lib.hid (HQ6.out.kept hkA (by omega))
    have HR7 := Lib.hid (HR6.out.kept hkA (fun b _ hb e => by have := hb.1; omega))
    have H7 := Lib.hid h7
    have hs7 := hkA.size
    clear hr7 h7 hk7 ho7 hkA HMK6 HQ6 HR6 HO6
    go_wp2_with fail
    refine (line_minus _ (w1.heap.size + 1) _ _ [45] _ (H7.out.kept0 ((Kept.refl _ _).alloc _)) (by decide) (hm.kept0 (HK7.out.alloc _)) errNo (by decide)).mono ?_
    rintro en w8 ⟨vr8, v8, rfl, hr8, h8, hk8, ho8, _⟩
    simp only [rpV, Option.getD_some, Option.isSome_some] at hr8 ⊢
    obtain ⟨A8, c8, rfl, hc8, _⟩ := hr8.readsN (n := 1) rfl
    have hX8 := (Blk.new w7 30 #[.string (strB [43]), .slice A7 1 c7, .slice none 0 0]).kept hk8 (by rintro (e | e); omega; exact ob_nil e)
    have hkB : Kept w7 w8 (fun k => k = w1.heap.size + 1) := ((Kept.refl w7 _).alloc _).trans hk8 fun b hb => .inl (hb.elim id fun h => absurd h ob_nil)
    have HK8 := Lib.hid (HK7.out.trans hkB fun b hb => .inr (by omega))
    have HMK8 := Lib.hid (HMK7.out.kept hkB (by omega) (by omega) (fun b hb => by have := HV6.out b hb; omega) (fun b hb => absurd hb ob_nil))
    have HQ8 := Lib.hid (HQ7.out.kept hkB (by omega))
    have HR8 := Lib.hid (HR7.out.kept hkB (fun b _ hb e => by have := hb.1; omega))
    have hs8 := hkB.size
    obtain ⟨x0, x1, x2, _, _, _⟩ := hX8.cells3
    have hxlt := hX8.lt
    clear hr8 h8 hk8 ho8 hkB HMK7 HQ7 HR7 H7 hX8
    go_wp2_with fail
    obtain ⟨W9, hW9⟩ : ∃ W9, (w8.alloc (.cells #[.string (strB [45]), .slice A8 1 c8, .slice none 0 0] 30)) = W9 := ⟨_, rfl⟩
    have hk9 : Kept w8 W9 NoB := by rw [← hW9]; exact (Kept.refl _ _).alloc _
    rw [hW9]
    have HMK9 := Lib.hid (HMK8.out.kept0 hk9)
    have HQ9 := Lib.hid (HQ8.out.kept0 hk9)
    have HR9 := Lib.hid (HR8.out.kept0 hk9)
    have HK9 := Lib.hid (HK8.out.trans' hk9)
    have hs9 := hk9.size
    have hqW := HMK9.out.2.2.1.lt
    clear hW9 hk9 HMK8 HQ8 HR8 x0 x1 x2 hxlt
    go_loopg [16] 30 (fun gk v16 wr => BoS W9 w1.heap.size q W.heap.size [104, 101, 114, 101] v l 30 gk v16 wr)
    case atStart => exact ⟨0, .slice none 0 0, 0, .slice none 0 0, 0, Nat.zero_le _, rfl, rfl, HMK9.out, ⟨HQ9.out, Row.nil _ _ _⟩, Nat.zero_le _, Nat.le_refl _, Nat.le_refl _, fun k hk => absurd hk ob_nil, fun k hk => absurd hk ob_nil, fun k hk => absurd hk ob_nil, Kept.refl _ _⟩
    case round =>
      obtain ⟨i, vb, n1, vb2, n2, hi, hgk, rfl, hmk, hbd, hlo, hn1, hn2, hvb, hvb2, hdj, hkr⟩ := hrel
      have hvv2 : ∀ k, OB v k → ¬ OB vb2 k := hmk.2.1.apart hbd.2 (by decide)
      have hbl2 : ∀ k, OB vb2 k → k < wr.heap.size := fun k hk => hbd.2.lt hk
      have HG := Lib.hid hgk
      have HMK := Lib.hid hmk
      have HBD := Lib.hid hbd
      have HVB := Lib.hid hvb
      have HVB2 := Lib.hid hvb2
      have HDJ := Lib.hid hdj
      have HVV := Lib.hid hvv2
      have HBL := Lib.hid hbl2
      have HKR := Lib.hid hkr
      have hsr := hkr.size
      have HKW0 := Lib.hid (HK9.out.trans hkr fun b hb => .inr (by rcases hb with rfl | rfl | rfl <;> omega))
      have HRr := Lib.hid (HR9.out.kept hkr (fun b _ hb e => by rcases e with rfl | rfl | rfl <;> omega))
      obtain ⟨lo, hloe⟩ : ∃ lq, outL (l.take i) = lq := ⟨_, rfl⟩
      rw [hloe] at hlo HMK HBD
      have HLO := Lib.hid hloe
      clear hgk hmk hbd hvb hvb2 hdj hvv2 hbl2 hkr hloe
      rcases Nat.lt_or_ge i 30 with hlt | hge
      · have hil : i < l.length := by have := HLN.out; omega
        obtain ⟨ad, u, hAd, hu, hcell⟩ := HRr.out.at_ hlt
        subst hAd
        rw [strs_at l i hil] at hu
        injection hu with hu
        subst hu
        have hxl := HLE.out l[i] (List.getElem_mem hil)
        have hsucc := outL_succ l hil
        rw [HLO.out] at hsucc
        obtain ⟨x, hx⟩ : ∃ x, l[i] = x := ⟨_, rfl⟩
        rw [hx] at hcell hxl hsucc
        have HSU := Lib.hid hsucc
        have ti : (i : Int) < 30 := by omega
        have hbp := body_put lo x
        have hpl := put_len x
        have hszx := strB_size x
        have hcase : (x = [] ∧ putL x = x) ∨ (∃ c r, x = c :: r ∧ c ≠ 46 ∧ putL x = x) ∨ (∃ r, x = 46 :: r ∧ putL x = 46 :: x) := by
          rcases x with _ | ⟨c, r⟩
          · exact .inl ⟨rfl, rfl⟩
          · by_cases h : c = 46
            · subst h
              exact .inr (.inr ⟨r, rfl, by unfold putL; rw [List.head?_cons, if_pos rfl]⟩)
            · exact .inr (.inl ⟨c, r, rfl, h, by unfold putL; rw [if_neg (by simpa using h)]⟩)
        obtain ⟨y, hy⟩ : ∃ y, putL x = y := ⟨_, rfl⟩
        rw [hy] at hbp hpl hcase
        clear hx hsucc hy
        have hyl : y.length ≤ 1099511627 := by omega
        have e1 : (⟨#[46]⟩ : ByteArray) ++ strB x = strB (46 :: x) := strB_app [46] x
        have z1 : ¬ (9223372036854775807 < 1 + x.length) := by omega
        by_cases hfull : 1000 < lo.length + (x ++ [13, 10]).length
        · rw [if_pos hfull] at hbp
          have HBP := Lib.hid hbp
          clear hbp hfull
          rcases hcase with ⟨h0, hxs⟩ | ⟨b, r, h0, hb46, hxs⟩ | ⟨r, h0, hxs⟩
          · have k1 : ¬ (0 : Int) < (x.length : Int) := by rw [h0]; decide
            obtain rfl : y = x := hxs
            clear h0
            go_wp2_with fail
            refine (line_bodied wr _ [43] _ v q lo y n1 vb false 72 _ (.inr rfl) HMK.out HBP.out hlo hyl (by omega)).mono ?_
            rintro en wa ⟨rfl, hka, hpost⟩
            have hsa := hka.size
            have HBDa := Lib.hid (HBD.out.kept hka (by rintro (e | e | e); omega; omega; have := HVB.out _ e; omega) (fun b hb => by have := HVB2.out b hb; rintro (e | e | e); omega; omega; exact HDJ.out b e hb))
            have HKa := Lib.hid (HKR.out.trans hka fun b hb => by rcases hb with h | h | h; exact .inl (.inl h); exact .inl (.inr (.inl h)); exact .inr (HVB.out b h))
            have HKwa := Lib.hid (HKW0.out.trans hka fun b hb => .inr (by rcases hb with h | h | h; omega; omega; have := HVB.out b h; omega))
            have HPOST := Lib.hid hpost
            clear hka hpost
            go_wp2_with fail
            refine (refLine_calls _ W.heap.size 1000 lo y n2 vb2 _ HBP.out (HBDa.out.kept0 ((Kept.refl _ _).alloc _)) (by decide) hlo (by omega) (by omega)).mono ?_
            rintro en wb ⟨rfl, vb3, n3, hn3, hbd3, hkb, hob3⟩
            have HKb0 := hkb
            have HKwb := Lib.hid ((HKwa.out.alloc (.cells #[.string ByteArray.empty, .slice none 0 0, .slice none 0 0] 30)).trans hkb fun b hb => .inr (by rcases hb with h | h; omega; have := HVB2.out b h; omega))
            have HMS := Lib.hid (((HPOST.out.2 (by decide)).kept0 ((Kept.refl _ _).alloc (.cells #[.string ByteArray.empty, .slice none 0 0, .slice none 0 0] 30))).kept hkb (by rintro (e | e); omega; have := HVB2.out _ e; omega) (fun b hb => absurd hb ob_nil))
            clear hbd3 hkb hob3 HKb0
            go_wp2_with fail
            refine (busy_calls _ w1.heap.size 2 none _ HMS.out).mono ?_
            rintro en _ ⟨rfl, rfl⟩
            go_wp2_with fail
            go_ret
            exact ⟨rfl, HKwb.out⟩
          · have k1 : (0 : Int) < (x.length : Int) := by rw [h0]; simp
            have kz : 0 < (strB x).size := by rw [strB_size]; omega
            have kb : ((strB x)[0]'kz) = b := by
              have := strB_getI x 0 kz
              rw [this]
              simp [h0]
            obtain ⟨z, hz⟩ : ∃ z : Nat, b.toNat = z := ⟨_, rfl⟩
            have kb' : ((strB x)[0]'kz).toNat = z := by rw [kb, hz]
            have k2 : ((z : Int) == 46) = false := by
              rw [beq_eq_false_iff_ne]
              intro e
              exact hb46 (UInt8.toNat_inj.1 (by rw [hz]; show z = 46; omega))
            obtain rfl : y = x := hxs
            clear h0 kb hz hb46
            go_wp2_with fail
            refine (line_bodied wr _ [43] _ v q lo y n1 vb false 72 _ (.inr rfl) HMK.out HBP.out hlo hyl (by omega)).mono ?_
            rintro en wa ⟨rfl, hka, hpost⟩
            have hsa := hka.size
            have HBDa := Lib.hid (HBD.out.kept hka (by rintro (e | e | e); omega; omega; have := HVB.out _ e; omega) (fun b hb => by have := HVB2.out b hb; rintro (e | e | e); omega; omega; exact HDJ.out b e hb))
            have HKa := Lib.hid (HKR.out.trans hka fun b hb => by rcases hb with h | h | h; exact .inl (.inl h); exact .inl (.inr (.inl h)); exact .inr (HVB.out b h))
            have HKwa := Lib.hid (HKW0.out.trans hka fun b hb => .inr (by rcases hb with h | h | h; omega; omega; have := HVB.out b h; omega))
            have HPOST := Lib.hid hpost
            clear hka hpost
            go_wp2_with fail
            refine (refLine_calls _ W.heap.size 1000 lo y n2 vb2 _ HBP.out (HBDa.out.kept0 ((Kept.refl _ _).alloc _)) (by decide) hlo (by omega) (by omega)).mono ?_
            rintro en wb ⟨rfl, vb3, n3, hn3, hbd3, hkb, hob3⟩
            have HKb0 := hkb
            have HKwb := Lib.hid ((HKwa.out.alloc (.cells #[.string ByteArray.empty, .slice none 0 0, .slice none 0 0] 30)).trans hkb fun b hb => .inr (by rcases hb with h | h; omega; have := HVB2.out b h; omega))
            have HMS := Lib.hid (((HPOST.out.2 (by decide)).kept0 ((Kept.refl _ _).alloc (.cells #[.string ByteArray.empty, .slice none 0 0, .slice none 0 0] 30))).kept hkb (by rintro (e | e); omega; have := HVB2.out _ e; omega) (fun b hb => absurd hb ob_nil))
            clear hbd3 hkb hob3 HKb0
            go_wp2_with fail
            refine (busy_calls _ w1.heap.size 2 none _ HMS.out).mono ?_
            rintro en _ ⟨rfl, rfl⟩
            go_wp2_with fail
            go_ret
            exact ⟨rfl, HKwb.out⟩
          · have k1 : (0 : Int) < (x.length : Int) := by rw [h0]; simp
            have kz : 0 < (strB x).size := by rw [strB_size]; omega
            have kb : ((strB x)[0]'kz) = 46 := by
              have := strB_getI x 0 kz
              rw [this]
              simp [h0]
            have kb' : ((strB x)[0]'kz).toNat = 46 := by rw [kb]; rfl
            clear h0 kb
            rw [← hxs] at e1
            clear hxs
            go_wp2_with fail
            refine (line_bodied wr _ [43] _ v q lo y n1 vb false 72 _ (.inr rfl) HMK.out HBP.out hlo hyl (by omega)).mono ?_
            rintro en wa ⟨rfl, hka, hpost⟩
            have hsa := hka.size
            have HBDa := Lib.hid (HBD.out.kept hka (by rintro (e | e | e); omega; omega; have := HVB.out _ e; omega) (fun b hb => by have := HVB2.out b hb; rintro (e | e | e); omega; omega; exact HDJ.out b e hb))
            have HKa := Lib.hid (HKR.out.trans hka fun b hb => by rcases hb with h | h | h; exact .inl (.inl h); exact .inl (.inr (.inl h)); exact .inr (HVB.out b h))
            have HKwa := Lib.hid (HKW0.out.trans hka fun b hb => .inr (by rcases hb with h | h | h; omega; omega; have := HVB.out b h; omega))
            have HPOST := Lib.hid hpost
            clear hka hpost
            go_wp2_with fail
            refine (refLine_calls _ W.heap.size 1000 lo y n2 vb2 _ HBP.out (HBDa.out.kept0 ((Kept.refl _ _).alloc _)) (by decide) hlo (by omega) (by omega)).mono ?_
            rintro en wb ⟨rfl, vb3, n3, hn3, hbd3, hkb, hob3⟩
            have HKb0 := hkb
            have HKwb := Lib.hid ((HKwa.out.alloc (.cells #[.string ByteArray.empty, .slice none 0 0, .slice none 0 0] 30)).trans hkb fun b hb => .inr (by rcases hb with h | h; omega; have := HVB2.out b h; omega))
            have HMS := Lib.hid (((HPOST.out.2 (by decide)).kept0 ((Kept.refl _ _).alloc (.cells #[.string ByteArray.empty, .slice none 0 0, .slice none 0 0] 30))).kept hkb (by rintro (e | e); omega; have := HVB2.out _ e; omega) (fun b hb => absurd hb ob_nil))
            clear hbd3 hkb hob3 HKb0
            go_wp2_with fail
            refine (busy_calls _ w1.heap.size 2 none _ HMS.out).mono ?_
            rintro en _ ⟨rfl, rfl⟩
            go_wp2_with fail
            go_ret
            exact ⟨rfl, HKwb.out⟩
        · rw [if_neg hfull] at hbp
          have hl3 : (lo ++ (x ++ [13, 10])).length ≤ 1000 := by rw [List.length_append]; omega
          have HBP := Lib.hid hbp
          clear hbp hfull
          rcases hcase with ⟨h0, hxs⟩ | ⟨b, r, h0, hb46, hxs⟩ | ⟨r, h0, hxs⟩
          · have k1 : ¬ (0 : Int) < (x.length : Int) := by rw [h0]; decide
            obtain rfl : y = x := hxs
            clear h0
            go_wp2_with fail
            refine (line_bodied wr _ [43] _ v q lo y n1 vb false 0 _ (.inl rfl) HMK.out HBP.out hlo hyl (by omega)).mono ?_
            rintro en wa ⟨rfl, hka, hpost⟩
            have hsa := hka.size
            have HBDa := Lib.hid (HBD.out.kept hka (by rintro (e | e | e); omega; omega; have := HVB.out _ e; omega) (fun b hb => by have := HVB2.out b hb; rintro (e | e | e); omega; omega; exact HDJ.out b e hb))
            have HKa := Lib.hid (HKR.out.trans hka fun b hb => by rcases hb with h | h | h; exact .inl (.inl h); exact .inl (.inr (.inl h)); exact .inr (HVB.out b h))
            have HKwa := Lib.hid (HKW0.out.trans hka fun b hb => .inr (by rcases hb with h | h | h; omega; omega; have := HVB.out b h; omega))
            have HPOST := Lib.hid hpost
            clear hka hpost
            go_wp2_with fail
            refine (refLine_calls _ W.heap.size 1000 lo y n2 vb2 _ HBP.out (HBDa.out.kept0 ((Kept.refl _ _).alloc _)) (by decide) hlo (by omega) (by omega)).mono ?_
            rintro en wb ⟨rfl, vb3, n3, hn3, hbd3, hkb, hob3⟩
            have HKb0 := hkb
            have HKwb := Lib.hid ((HKwa.out.alloc (.cells #[.string ByteArray.empty, .slice none 0 0, .slice none 0 0] 30)).trans hkb fun b hb => .inr (by rcases hb with h | h; omega; have := HVB2.out b h; omega))
            obtain ⟨vb', n', hn', hmk', hat'⟩ := HPOST.out.1 rfl
            have hlt' : ∀ k, OB vb' k → k < wa.heap.size := fun k hk => hmk'.2.2.2.lt hk
            have hdj' : ∀ k, OB vb' k → ¬ OB vb2 k := fun k hk h2 => (hat' k hk).elim (fun h => HDJ.out k h h2) fun h => by have := HBL.out k h2; omega
            have hge' : ∀ k, OB vb' k → W9.heap.size ≤ k := fun k hk => (hat' k hk).elim (HVB.out k) fun h => by omega
            have HMKb := Lib.hid ((hmk'.kept0 ((Kept.refl _ _).alloc (.cells #[.string ByteArray.empty, .slice none 0 0, .slice none 0 0] 30))).kept hkb (by rintro (e | e); omega; have := HVB2.out _ e; omega) (by rintro (e | e); omega; exact absurd rfl (fun (_ : q = q) => by have := hmk'.2.2.1.lt; have h2 := HBDa.out.2.ne_blk hmk'.2.2.1 (by decide); exact h2 e)) (fun b hb => by rintro (e | e); (have := HV6.out b hb; omega); exact HVV.out b hb e) (fun b hb => by rintro (e | e); (have := hge' b hb; omega); exact hdj' b hb e))
            have HBDb := Lib.hid hbd3
            have HKb := Lib.hid ((HKa.out.alloc (.cells #[.string ByteArray.empty, .slice none 0 0, .slice none 0 0] 30)).trans hkb fun b hb => by rcases hb with h | h; exact .inl (.inr (.inr h)); exact .inr (HVB2.out b h))
            have HDJb : Hid (∀ k, OB vb' k → ¬ OB vb3 k) := fun k hk h3 => (hob3 k h3).elim (hdj' k hk) fun h => by rw [World.size_alloc] at h; have := hlt' k hk; omega
            have HVBb := Lib.hid hge'
            have HVBc : Hid (∀ k, OB vb3 k → W9.heap.size ≤ k) := fun k hk => (hob3 k hk).elim (HVB2.out k) fun h => by rw [World.size_alloc] at h; omega
            clear hbd3 hkb hob3 HKb0 hmk' hat' hlt' hdj' hge'
            go_wp2_with fail
            go_roundg (30 - (i + 1))
            case measure => have := HG.out; omega
            case rel => exact ⟨i + 1, vb', n', vb3, n3, hlt, rfl, by go_num, by rw [HSU.out]; exact HMKb.out, by rw [HSU.out]; exact HBDb.out, by rw [HSU.out]; exact hl3, by omega, by omega, HVBb.out, HVBc.out, HDJb.out, HKb.out⟩
          · have k1 : (0 : Int) < (x.length : Int) := by rw [h0]; simp
            have kz : 0 < (strB x).size := by rw [strB_size]; omega
            have kb : ((strB x)[0]'kz) = b := by
              have := strB_getI x 0 kz
              rw [this]
              simp [h0]
            obtain ⟨z, hz⟩ : ∃ z : Nat, b.toNat = z := ⟨_, rfl⟩
            have kb' : ((strB x)[0]'kz).toNat = z := by rw [kb, hz]
            have k2 : ((z : Int) == 46) = false := by
              rw [beq_eq_false_iff_ne]
              intro e
              exact hb46 (UInt8.toNat_inj.1 (by rw [hz]; show z = 46; omega))
            obtain rfl : y = x := hxs
            clear h0 kb hz hb46
            go_wp2_with fail
            refine (line_bodied wr _ [43] _ v q lo y n1 vb false 0 _ (.inl rfl) HMK.out HBP.out hlo hyl (by omega)).mono ?_
            rintro en wa ⟨rfl, hka, hpost⟩
            have hsa := hka.size
            have HBDa := Lib.hid (HBD.out.kept hka (by rintro (e | e | e); omega; omega; have := HVB.out _ e; omega) (fun b hb => by have := HVB2.out b hb; rintro (e | e | e); omega; omega; exact HDJ.out b e hb))
            have HKa := Lib.hid (HKR.out.trans hka fun b hb => by rcases hb with h | h | h; exact .inl (.inl h); exact .inl (.inr (.inl h)); exact .inr (HVB.out b h))
            have HKwa := Lib.hid (HKW0.out.trans hka fun b hb => .inr (by rcases hb with h | h | h; omega; omega; have := HVB.out b h; omega))
            have HPOST := Lib.hid hpost
            clear hka hpost
            go_wp2_with fail
            refine (refLine_calls _ W.heap.size 1000 lo y n2 vb2 _ HBP.out (HBDa.out.kept0 ((Kept.refl _ _).alloc _)) (by decide) hlo (by omega) (by omega)).mono ?_
            rintro en wb ⟨rfl, vb3, n3, hn3, hbd3, hkb, hob3⟩
            have HKb0 := hkb
            have HKwb := Lib.hid ((HKwa.out.alloc (.cells #[.string ByteArray.empty, .slice none 0 0, .slice none 0 0] 30)).trans hkb fun b hb => .inr (by rcases hb with h | h; omega; have := HVB2.out b h; omega))
            obtain ⟨vb', n', hn', hmk', hat'⟩ := HPOST.out.1 rfl
            have hlt' : ∀ k, OB vb' k → k < wa.heap.size := fun k hk => hmk'.2.2.2.lt hk
            have hdj' : ∀ k, OB vb' k → ¬ OB vb2 k := fun k hk h2 => (hat' k hk).elim (fun h => HDJ.out k h h2) fun h => by have := HBL.out k h2; omega
            have hge' : ∀ k, OB vb' k → W9.heap.size ≤ k := fun k hk => (hat' k hk).elim (HVB.out k) fun h => by omega
            have HMKb := Lib.hid ((hmk'.kept0 ((Kept.refl _ _).alloc (.cells #[.string ByteArray.empty, .slice none 0 0, .slice none 0 0] 30))).kept hkb (by rintro (e | e); omega; have := HVB2.out _ e; omega) (by rintro (e | e); omega; exact absurd rfl (fun (_ : q = q) => by have := hmk'.2.2.1.lt; have h2 := HBDa.out.2.ne_blk hmk'.2.2.1 (by decide); exact h2 e)) (fun b hb => by rintro (e | e); (have := HV6.out b hb; omega); exact HVV.out b hb e) (fun b hb => by rintro (e | e); (have := hge' b hb; omega); exact hdj' b hb e))
            have HBDb := Lib.hid hbd3
            have HKb := Lib.hid ((HKa.out.alloc (.cells #[.string ByteArray.empty, .slice none 0 0, .slice none 0 0] 30)).trans hkb fun b hb => by rcases hb with h | h; exact .inl (.inr (.inr h)); exact .inr (HVB2.out b h))
            have HDJb : Hid (∀ k, OB vb' k → ¬ OB vb3 k) := fun k hk h3 => (hob3 k h3).elim (hdj' k hk) fun h => by rw [World.size_alloc] at h; have := hlt' k hk; omega
            have HVBb := Lib.hid hge'
            have HVBc : Hid (∀ k, OB vb3 k → W9.heap.size ≤ k) := fun k hk => (hob3 k hk).elim (HVB2.out k) fun h => by rw [World.size_alloc] at h; omega
            clear hbd3 hkb hob3 HKb0 hmk' hat' hlt' hdj' hge'
            go_wp2_with fail
            go_roundg (30 - (i + 1))
            case measure => have := HG.out; omega
            case rel => exact ⟨i + 1, vb', n', vb3, n3, hlt, rfl, by go_num, by rw [HSU.out]; exact HMKb.out, by rw [HSU.out]; exact HBDb.out, by rw [HSU.out]; exact hl3, by omega, by omega, HVBb.out, HVBc.out, HDJb.out, HKb.out⟩
          · have k1 : (0 : Int) < (x.length : Int) := by rw [h0]; simp
            have kz : 0 < (strB x).size := by rw [strB_size]; omega
            have kb : ((strB x)[0]'kz) = 46 := by
              have := strB_getI x 0 kz
              rw [this]
              simp [h0]
            have kb' : ((strB x)[0]'kz).toNat = 46 := by rw [kb]; rfl
            clear h0 kb
            rw [← hxs] at e1
            clear hxs
            go_wp2_with fail
            refine (line_bodied wr _ [43] _ v q lo y n1 vb false 0 _ (.inl rfl) HMK.out HBP.out hlo hyl (by omega)).mono ?_
            rintro en wa ⟨rfl, hka, hpost⟩
            have hsa := hka.size
            have HBDa := Lib.hid (HBD.out.kept hka (by rintro (e | e | e); omega; omega; have := HVB.out _ e; omega) (fun b hb => by have := HVB2.out b hb; rintro (e | e | e); omega; omega; exact HDJ.out b e hb))
            have HKa := Lib.hid (HKR.out.trans hka fun b hb => by rcases hb with h | h | h; exact .inl (.inl h); exact .inl (.inr (.inl h)); exact .inr (HVB.out b h))
            have HKwa := Lib.hid (HKW0.out.trans hka fun b hb => .inr (by rcases hb with h | h | h; omega; omega; have := HVB.out b h; omega))
            have HPOST := Lib.hid hpost
            clear hka hpost
            go_wp2_with fail
            refine (refLine_calls _ W.heap.size 1000 lo y n2 vb2 _ HBP.out (HBDa.out.kept0 ((Kept.refl _ _).alloc _)) (by decide) hlo (by omega) (by omega)).mono ?_
            rintro en wb ⟨rfl, vb3, n3, hn3, hbd3, hkb, hob3⟩
            have HKb0 := hkb
            have HKwb := Lib.hid ((HKwa.out.alloc (.cells #[.string ByteArray.empty, .slice none 0 0, .slice none 0 0] 30)).trans hkb fun b hb => .inr (by rcases hb with h | h; omega; have := HVB2.out b h; omega))
            obtain ⟨vb', n', hn', hmk', hat'⟩ := HPOST.out.1 rfl
            have hlt' : ∀ k, OB vb' k → k < wa.heap.size := fun k hk => hmk'.2.2.2.lt hk
            have hdj' : ∀ k, OB vb' k → ¬ OB vb2 k := fun k hk h2 => (hat' k hk).elim (fun h => HDJ.out k h h2) fun h => by have := HBL.out k h2; omega
            have hge' : ∀ k, OB vb' k → W9.heap.size ≤ k := fun k hk => (hat' k hk).elim (HVB.out k) fun h => by omega
            have HMKb := Lib.hid ((hmk'.kept0 ((Kept.refl _ _).alloc (.cells #[.string ByteArray.empty, .slice none 0 0, .slice none 0 0] 30))).kept hkb (by rintro (e | e); omega; have := HVB2.out _ e; omega) (by rintro (e | e); omega; exact absurd rfl (fun (_ : q = q) => by have := hmk'.2.2.1.lt; have h2 := HBDa.out.2.ne_blk hmk'.2.2.1 (by decide); exact h2 e)) (fun b hb => by rintro (e | e); (have := HV6.out b hb; omega); exact HVV.out b hb e) (fun b hb => by rintro (e | e); (have := hge' b hb; omega); exact hdj' b hb e))
            have HBDb := Lib.hid hbd3
            have HKb := Lib.hid ((HKa.out.alloc (.cells #[.string ByteArray.empty, .slice none 0 0, .slice none 0 0] 30)).trans hkb fun b hb => by rcases hb with h | h; exact .inl (.inr (.inr h)); exact .inr (HVB2.out b h))
            have HDJb : Hid (∀ k, OB vb' k → ¬ OB vb3 k) := fun k hk h3 => (hob3 k h3).elim (hdj' k hk) fun h => by rw [World.size_alloc] at h; have := hlt' k hk; omega
            have HVBb := Lib.hid hge'
            have HVBc : Hid (∀ k, OB vb3 k → W9.heap.size ≤ k) := fun k hk => (hob3 k hk).elim (HVB2.out k) fun h => by rw [World.size_alloc] at h; omega
            clear hbd3 hkb hob3 HKb0 hmk' hat' hlt' hdj' hge'
            go_wp2_with fail
            go_roundg (30 - (i + 1))
            case measure => have := HG.out; omega
            case rel => exact ⟨i + 1, vb', n', vb3, n3, hlt, rfl, by go_num, by rw [HSU.out]; exact HMKb.out, by rw [HSU.out]; exact HBDb.out, by rw [HSU.out]; exact hl3, by omega, by omega, HVBb.out, HVBc.out, HDJb.out, HKb.out⟩
      · obtain rfl : i = 30 := by omega
        have ti : ¬ (30 : Int) < 30 := by omega
        go_wp2_with fail
        refine (line_end wr _ [43] _ v q lo n1 vb false HMK.out hlo (by omega)).mono ?_
        rintro en wa ⟨vx, rfl, hrv, hrx, hst, hka⟩
        have hsa := hka.size
        have HKwa := Lib.hid (HKW0.out.trans hka fun b hb => .inr (by rcases hb with h | h | h; omega; omega; have := HVB.out b h; omega))
        have HRa := Lib.hid (HRr.out.kept hka (fun b _ hb e => by rcases e with h | h | h; omega; omega; have := HVB.out b h; omega))
        obtain ⟨Av, nv, cv, rfl⟩ := hrv.slice
        obtain ⟨Ax, cx, rfl, hcx, hrdx⟩ := hrx.readsN (n := lo.length) (b8s_length lo)
        have HRX := Lib.hid hrdx
        have HST := Lib.hid hst
        clear hrv hrx hst hka hrdx
        have HXR := Lib.hid (Blk.new wa 30 #[.string (strB [43]), .slice Av nv cv, .slice Ax lo.length cx])
        have HKA2 : Hid (Kept wa (wa.alloc (.cells #[.string (strB [43]), .slice Av nv cv, .slice Ax lo.length cx] 30)) NoB) := (Kept.refl _ _).alloc _
        go_wp2_with fail
        go_loopg [26, 27] 30 (fun gk v26 v27 wr2 => TxtS (wa.alloc (.cells #[.string (strB [43]), .slice Av nv cv, .slice Ax lo.length cx] 30)) l 30 gk v26 v27 wr2)
        case atStart => exact ⟨0, Nat.zero_le _, rfl, rfl, rfl, Kept.refl _ _⟩
        case round =>
          obtain ⟨j, hj, hgk, rfl, rfl, hkr2⟩ := hrel
          have HG2 := Lib.hid hgk
          have HKR2 := Lib.hid hkr2
          have HK2w := Lib.hid ((HKwa.out.trans' HKA2.out).trans' hkr2)
          have HRj := Lib.hid ((HRa.out.kept0 HKA2.out).kept0 hkr2)
          clear hgk hkr2
          rcases Nat.lt_or_ge j 30 with hlt | hge2
          · have hjl : j < l.length := by have := HLN.out; omega
            obtain ⟨ad, u, hAd, hu, hcell⟩ := HRj.out.at_ hlt
            subst hAd
            rw [strs_at l j hjl] at hu
            injection hu with hu
            subst hu
            have hxl := HLE.out l[j] (List.getElem_mem hjl)
            have hsucc := outL_succ l hjl
            have hol := outL_len (l.take j) fun y hy => HLE.out y (List.mem_of_mem_take hy)
            rw [List.length_take] at hol
            obtain ⟨x, hx⟩ : ∃ x, l[j] = x := ⟨_, rfl⟩
            rw [hx] at hcell hxl hsucc
            obtain ⟨o, ho⟩ : ∃ o, outL (l.take j) = o := ⟨_, rfl⟩
            rw [ho] at hsucc hol ⊢
            have HSU := Lib.hid hsucc
            have tj : (j : Int) < 30 := by omega
            have hszx := strB_size x
            have hszo := strB_size o
            have e1 : strB o ++ strB x = strB (o ++ x) := strB_app o x
            have e2 : strB (o ++ x) ++ (⟨#[13, 10]⟩ : ByteArray) = strB ((o ++ x) ++ [13, 10]) := strB_app (o ++ x) [13, 10]
            have hpl : (o ++ x).length = o.length + x.length := List.length_append
            obtain ⟨pp, hpp⟩ : ∃ p, o ++ x = p := ⟨_, rfl⟩
            rw [hpp] at e1 e2 hpl
            have hszp := strB_size pp
            have HPP := Lib.hid hpp
            have z1 : ¬ (9223372036854775807 < o.length + x.length) := by omega
            have z2 : ¬ (9223372036854775807 < pp.length + 2) := by omega
            clear hx ho hsucc hpp
            go_wp2_with fail
            go_roundg (30 - (j + 1))
            case measure => have := HG2.out; omega
            case rel => exact ⟨j + 1, hlt, rfl, by go_num, by rw [HSU.out, ← HPP.out, List.append_assoc], HKR2.out⟩
          · obtain rfl : j = 30 := by omega
            have tj : ¬ (30 : Int) < 30 := by omega
            rw [HLO.out]
            obtain ⟨x0, x1, x2, _, _, _⟩ := (HXR.out.kept0 HKR2.out).cells3
            have hrd2 := (HRX.out.kept0 HKA2.out).kept0 HKR2.out
            have kcv := hrd2.string 28 5 9 Tryd.underlying28 Tryd.underlying5 Tryd.underlying9 cx
            have HMS := Lib.hid ((HST.out.kept0 HKA2.out).kept0 HKR2.out)
            have q3 : (lo == lo) = true := by rw [beq_iff_eq]
            clear hrd2
            go_wp2_with fail
            refine (busy_calls _ w1.heap.size 2 none _ HMS.out).mono ?_
            rintro en _ ⟨rfl, rfl⟩
            go_wp2_with fail
            go_ret
            exact ⟨rfl, HK2w.out⟩
  · have hci : ¬ (30 : Int) < (fl.length : Int) := by omega
    have HLE := HFE
    have HLN : Hid (fl.length = fl.length) := rfl
    have HRL := HRA
    have hfl30 : fl.length ≤ 30 := by omega
    clear hcut
    go_wp2_with fail
    refine (refNew_calls W 1000).mono ?_
    rintro en W5 ⟨rfl, hW5⟩
    have hk5 : Kept W W5 NoB := by rw [hW5]; exact (Kept.refl _ _).alloc _
    have hb5 := Blk.new W 59 #[.slice none 0 0, .int .i64 0, .int .i64 ((1000 : Nat) : Int)]
    have hs5 : W5.heap.size = W.heap.size + 1 := by rw [hW5]; simp
    rw [← hW5] at hb5
    have HK5 := Lib.hid (HKW.out.trans' hk5)
    have HG5 := Lib.hid (HG.out.kept0 hk5)
    have HO5 := Lib.hid (HO.out.kept0 hk5)
    have HQ5 := Lib.hid hb5
    have HR5 := Lib.hid ((HRL.out.mono (T := fun k => w1.heap.size + 2 ≤ k ∧ k < W.heap.size) fun k hk h => ⟨h, hk⟩).kept0 hk5)
    clear hW5 hk5 hb5
    go_wp2_with fail
    refine (line_plus W5 w1.heap.size _ _ _ HG5.out (by decide) (hm.kept0 HK5.out) okHere).mono ?_
    rintro en w6 ⟨rfl, v, q, hmk, hk6, hv6, hq6⟩
    have HMK6 := Lib.hid hmk
    have hk6w := hk6.size
    have HK6 := Lib.hid (HK5.out.trans hk6 fun b hb => .inr (by rw [hb]; exact hsz1))
    have HQ6 := Lib.hid (HQ5.out.kept hk6 (by omega))
    have HO6 := Lib.hid (HO5.out.kept hk6 (by omega) (fun b hb => absurd hb ob_nil))
    have HR6 := Lib.hid (HR5.out.kept hk6 (fun b _ hb e => by have := hb.1; omega))
    have HV6 := Lib.hid hv6
    clear hmk hk6 hv6 HR5 HO5 HQ5 HG5
    go_wp2_with fail
    refine (line_at _ (w1.heap.size + 1) 2 none _ _ false _ _ rfl okStep (HO6.out.kept0 ((Kept.refl _ _).alloc _)) (by decide) (hm.kept0 (HK6.out.alloc _)) (by decide)).mono ?_
    rintro en w7 ⟨vr7, v7, rfl, hr7, h7, hk7, ho7, _⟩
    simp only [rpV, Option.getD_some, Option.isSome_some] at hr7 ⊢
    obtain ⟨A7, c7, rfl, hc7, _⟩ := hr7.readsN (n := 1) rfl
    obtain rfl : v7 = .slice none 0 0 := h7.2
    have hkA : Kept w6 w7 (fun k => k = w1.heap.size + 1) := ((Kept.refl w6 _).alloc _).trans hk7 fun b hb => .inl (hb.elim id fun h => absurd h ob_nil)
    have HK7 := Lib.hid (HK6.out.trans hkA fun b hb => .inr (by omega))
    have HMK7 := Lib.hid (HMK6.out.kept hkA (by omega) (by omega) (fun b hb => by have := HV6.out b hb; omega) (fun b hb => absurd hb ob_nil))
    have HQ7 := Lib.hid (HQ6.out.kept hkA (by omega))
    have HR7 := Lib.hid (HR6.out.kept hkA (fun b _ hb e => by have := hb.1; omega))
    have H7 := Lib.hid h7
    have hs7 := hkA.size
    clear hr7 h7 hk7 ho7 hkA HMK6 HQ6 HR6 HO6
    go_wp2_with fail
    refine (line_minus _ (w1.heap.size + 1) _ _ [45] _ (H7.out.kept0 ((Kept.refl _ _).alloc _)) (by decide) (hm.kept0 (HK7.out.alloc _)) errNo (by decide)).mono ?_
    rintro en w8 ⟨vr8, v8, rfl, hr8, h8, hk8, ho8, _⟩
    simp only [rpV, Option.getD_some, Option.isSome_some] at hr8 ⊢
    obtain ⟨A8, c8, rfl, hc8, _⟩ := hr8.readsN (n := 1) rfl
    have hX8 := (Blk.new w7 30 #[.string (strB [43]), .slice A7 1 c7, .slice none 0 0]).kept hk8 (by rintro (e | e); omega; exact ob_nil e)
    have hkB : Kept w7 w8 (fun k => k = w1.heap.size + 1) := ((Kept.refl w7 _).alloc _).trans hk8 fun b hb => .inl (hb.elim id fun h => absurd h ob_nil)
    have HK8 := Lib.hid (HK7.out.trans hkB fun b hb => .inr (by omega))
    have HMK8 := Lib.hid (HMK7.out.kept hkB (by omega) (by omega) (fun b hb => by have := HV6.out b hb; omega) (fun b hb => absurd hb ob_nil))
    have HQ8 := Lib.hid (HQ7.out.kept hkB (by omega))
    have HR8 := Lib.hid (HR7.out.kept hkB (fun b _ hb e => by have := hb.1; omega))
    have hs8 := hkB.size
    obtain ⟨x0, x1, x2, _, _, _⟩ := hX8.cells3
    have hxlt := hX8.lt
    clear hr8 h8 hk8 ho8 hkB HMK7 HQ7 HR7 H7 hX8
    go_wp2_with fail
    obtain ⟨W9, hW9⟩ : ∃ W9, (w8.alloc (.cells #[.string (strB [45]), .slice A8 1 c8, .slice none 0 0] 30)) = W9 := ⟨_, rfl⟩
    have hk9 : Kept w8 W9 NoB := by rw [← hW9]; exact (Kept.refl _ _).alloc _
    rw [hW9]
    have HMK9 := Lib.hid (HMK8.out.kept0 hk9)
    have HQ9 := Lib.hid (HQ8.out.kept0 hk9)
    have HR9 := Lib.hid (HR8.out.kept0 hk9)
    have HK9 := Lib.hid (HK8.out.trans' hk9)
    have hs9 := hk9.size
    have hqW := HMK9.out.2.2.1.lt
    clear hW9 hk9 HMK8 HQ8 HR8 x0 x1 x2 hxlt
    go_loopg [16] fl.length (fun gk v16 wr => BoS W9 w1.heap.size q W.heap.size [104, 101, 114, 101] v fl fl.length gk v16 wr)
    case atStart => exact ⟨0, .slice none 0 0, 0, .slice none 0 0, 0, Nat.zero_le _, rfl, rfl, HMK9.out, ⟨HQ9.out, Row.nil _ _ _⟩, Nat.zero_le _, Nat.le_refl _, Nat.le_refl _, fun k hk => absurd hk ob_nil, fun k hk => absurd hk ob_nil, fun k hk => absurd hk ob_nil, Kept.refl _ _⟩
    case round =>
      obtain ⟨i, vb, n1, vb2, n2, hi, hgk, rfl, hmk, hbd, hlo, hn1, hn2, hvb, hvb2, hdj, hkr⟩ := hrel
      have hvv2 : ∀ k, OB v k → ¬ OB vb2 k := hmk.2.1.apart hbd.2 (by decide)
      have hbl2 : ∀ k, OB vb2 k → k < wr.heap.size := fun k hk => hbd.2.lt hk
      have HG := Lib.hid hgk
      have HMK := Lib.hid hmk
      have HBD := Lib.hid hbd
      have HVB := Lib.hid hvb
      have HVB2 := Lib.hid hvb2
      have HDJ := Lib.hid hdj
      have HVV := Lib.hid hvv2
      have HBL := Lib.hid hbl2
      have HKR := Lib.hid hkr
      have hsr := hkr.size
      have HKW0 := Lib.hid (HK9.out.trans hkr fun b hb => .inr (by rcases hb with rfl | rfl | rfl <;> omega))
      have HRr := Lib.hid (HR9.out.kept hkr (fun b _ hb e => by rcases e with rfl | rfl | rfl <;> omega))
      obtain ⟨lo, hloe⟩ : ∃ lq, outL (fl.take i) = lq := ⟨_, rfl⟩
      rw [hloe] at hlo HMK HBD
      have HLO := Lib.hid hloe
      clear hgk hmk hbd hvb hvb2 hdj hvv2 hbl2 hkr hloe
      rcases Nat.lt_or_ge i fl.length with hlt | hge
      · have hil : i < fl.length := by have := HLN.out; omega
        obtain ⟨ad, u, hAd, hu, hcell⟩ := HRr.out.at_ hlt
        subst hAd
        rw [strs_at fl i hil] at hu
        injection hu with hu
        subst hu
        have hxl := HLE.out fl[i] (List.getElem_mem hil)
        have hsucc := outL_succ fl hil
        rw [HLO.out] at hsucc
        obtain ⟨x, hx⟩ : ∃ x, fl[i] = x := ⟨_, rfl⟩
        rw [hx] at hcell hxl hsucc
        have HSU := Lib.hid hsucc
        have ti : (i : Int) < (fl.length : Int) := by omega
        have hbp := body_put lo x
        have hpl := put_len x
        have hszx := strB_size x
        have hcase : (x = [] ∧ putL x = x) ∨ (∃ c r, x = c :: r ∧ c ≠ 46 ∧ putL x = x) ∨ (∃ r, x = 46 :: r ∧ putL x = 46 :: x) := by
          rcases x with _ | ⟨c, r⟩
          · exact .inl ⟨rfl, rfl⟩
          · by_cases h : c = 46
            · subst h
              exact .inr (.inr ⟨r, rfl, by unfold putL; rw [List.head?_cons, if_pos rfl]⟩)
            · exact .inr (.inl ⟨c, r, rfl, h, by unfold putL; rw [if_neg (by simpa using h)]⟩)
        obtain ⟨y, hy⟩ : ∃ y, putL x = y := ⟨_, rfl⟩
        rw [hy] at hbp hpl hcase
        clear hx hsucc hy
        have hyl : y.length ≤ 1099511627 := by omega
        have e1 : (⟨#[46]⟩ : ByteArray) ++ strB x = strB (46 :: x) := strB_app [46] x
        have z1 : ¬ (9223372036854775807 < 1 + x.length) := by omega
        by_cases hfull : 1000 < lo.length + (x ++ [13, 10]).length
        · rw [if_pos hfull] at hbp
          have HBP := Lib.hid hbp
          clear hbp hfull
          rcases hcase with ⟨h0, hxs⟩ | ⟨b, r, h0, hb46, hxs⟩ | ⟨r, h0, hxs⟩
          · have k1 : ¬ (0 : Int) < (x.length : Int) := by rw [h0]; decide
            obtain rfl : y = x := hxs
            clear h0
            go_wp2_with fail
            refine (line_bodied wr _ [43] _ v q lo y n1 vb false 72 _ (.inr rfl) HMK.out HBP.out hlo hyl (by omega)).mono ?_
            rintro en wa ⟨rfl, hka, hpost⟩
            have hsa := hka.size
            have HBDa := Lib.hid (HBD.out.kept hka (by rintro (e | e | e); omega; omega; have := HVB.out _ e; omega) (fun b hb => by have := HVB2.out b hb; rintro (e | e | e); omega; omega; exact HDJ.out b e hb))
            have HKa := Lib.hid (HKR.out.trans hka fun b hb => by rcases hb with h | h | h; exact .inl (.inl h); exact .inl (.inr (.inl h)); exact .inr (HVB.out b h))
            have HKwa := Lib.hid (HKW0.out.trans hka fun b hb => .inr (by rcases hb with h | h | h; omega; omega; have := HVB.out b h; omega))
            have HPOST := Lib.hid hpost
            clear hka hpost
            go_wp2_with fail
            refine (refLine_calls _ W.heap.size 1000 lo y n2 vb2 _ HBP.out (HBDa.out.kept0 ((Kept.refl _ _).alloc _)) (by decide) hlo (by omega) (by omega)).mono ?_
            rintro en wb ⟨rfl, vb3, n3, hn3, hbd3, hkb, hob3⟩
            have HKb0 := hkb
            have HKwb := Lib.hid ((HKwa.out.alloc (.cells #[.string ByteArray.empty, .slice none 0 0, .slice none 0 0] 30)).trans hkb fun b hb => .inr (by rcases hb with h | h; omega; have := HVB2.out b h; omega))
            have HMS := Lib.hid (((HPOST.out.2 (by decide)).kept0 ((Kept.refl _ _).alloc (.cells #[.string ByteArray.empty, .slice none 0 0, .slice none 0 0] 30))).kept hkb (by rintro (e | e); omega; have := HVB2.out _ e; omega) (fun b hb => absurd hb ob_nil))
            clear hbd3 hkb hob3 HKb0
            go_wp2_with fail
            refine (busy_calls _ w1.heap.size 2 none _ HMS.out).mono ?_
            rintro en _ ⟨rfl, rfl⟩
            go_wp2_with fail
            go_ret
            exact ⟨rfl, HKwb.out⟩
          · have k1 : (0 : Int) < (x.length : Int) := by rw [h0]; simp
            have kz : 0 < (strB x).size := by rw [strB_size]; omega
            have kb : ((strB x)[0]'kz) = b := by
              have := strB_getI x 0 kz
              rw [this]
              simp [h0]
            obtain ⟨z, hz⟩ : ∃ z : Nat, b.toNat = z := ⟨_, rfl⟩
            have kb' : ((strB x)[0]'kz).toNat = z := by rw [kb, hz]
            have k2 : ((z : Int) == 46) = false := by
              rw [beq_eq_false_iff_ne]
              intro e
              exact hb46 (UInt8.toNat_inj.1 (by rw [hz]; show z = 46; omega))
            obtain rfl : y = x := hxs
            clear h0 kb hz hb46
            go_wp2_with fail
            refine (line_bodied wr _ [43] _ v q lo y n1 vb false 72 _ (.inr rfl) HMK.out HBP.out hlo hyl (by omega)).mono ?_
            rintro en wa ⟨rfl, hka, hpost⟩
            have hsa := hka.size
            have HBDa := Lib.hid (HBD.out.kept hka (by rintro (e | e | e); omega; omega; have := HVB.out _ e; omega) (fun b hb => by have := HVB2.out b hb; rintro (e | e | e); omega; omega; exact HDJ.out b e hb))
            have HKa := Lib.hid (HKR.out.trans hka fun b hb => by rcases hb with h | h | h; exact .inl (.inl h); exact .inl (.inr (.inl h)); exact .inr (HVB.out b h))
            have HKwa := Lib.hid (HKW0.out.trans hka fun b hb => .inr (by rcases hb with h | h | h; omega; omega; have := HVB.out b h; omega))
            have HPOST := Lib.hid hpost
            clear hka hpost
            go_wp2_with fail
            refine (refLine_calls _ W.heap.size 1000 lo y n2 vb2 _ HBP.out (HBDa.out.kept0 ((Kept.refl _ _).alloc _)) (by decide) hlo (by omega) (by omega)).mono ?_
            rintro en wb ⟨rfl, vb3, n3, hn3, hbd3, hkb, hob3⟩
            have HKb0 := hkb
            have HKwb := Lib.hid ((HKwa.out.alloc (.cells #[.string ByteArray.empty, .slice none 0 0, .slice none 0 0] 30)).trans hkb fun b hb => .inr (by rcases hb with h | h; omega; have := HVB2.out b h; omega))
            have HMS := Lib.hid (((HPOST.out.2 (by decide)).kept0 ((Kept.refl _ _).alloc (.cells #[.string ByteArray.empty, .slice none 0 0, .slice none 0 0] 30))).kept hkb (by rintro (e | e); omega; have := HVB2.out _ e; omega) (fun b hb => absurd hb ob_nil))
            clear hbd3 hkb hob3 HKb0
            go_wp2_with fail
            refine (busy_calls _ w1.heap.size 2 none _ HMS.out).mono ?_
            rintro en _ ⟨rfl, rfl⟩
            go_wp2_with fail
            go_ret
            exact ⟨rfl, HKwb.out⟩
          · have k1 : (0 : Int) < (x.length : Int) := by rw [h0]; simp
            have kz : 0 < (strB x).size := by rw [strB_size]; omega
            have kb : ((strB x)[0]'kz) = 46 := by
              have := strB_getI x 0 kz
              rw [this]
              simp [h0]
            have kb' : ((strB x)[0]'kz).toNat = 46 := by rw [kb]; rfl
            clear h0 kb
            rw [← hxs] at e1
            clear hxs
            go_wp2_with fail
            refine (line_bodied wr _ [43] _ v q lo y n1 vb false 72 _ (.inr rfl) HMK.out HBP.out hlo hyl (by omega)).mono ?_
            rintro en wa ⟨rfl, hka, hpost⟩
            have hsa := hka.size
            have HBDa := Lib.hid (HBD.out.kept hka (by rintro (e | e | e); omega; omega; have := HVB.out _ e; omega) (fun b hb => by have := HVB2.out b hb; rintro (e | e | e); omega; omega; exact HDJ.out b e hb))
            have HKa := Lib.hid (HKR.out.trans hka fun b hb => by rcases hb with h | h | h; exact .inl (.inl h); exact .inl (.inr (.inl h)); exact .inr (HVB.out b h))
            have HKwa := Lib.hid (HKW0.out.trans hka fun b hb => .inr (by rcases hb with h | h | h; omega; omega; have := HVB.out b h; omega))
            have HPOST := Lib.hid hpost
            clear hka hpost
            go_wp2_with fail
            refine (refLine_calls _ W.heap.size 1000 lo y n2 vb2 _ HBP.out (HBDa.out.kept0 ((Kept.refl _ _).alloc _)) (by decide) hlo (by omega) (by omega)).mono ?_
            rintro en wb ⟨rfl, vb3, n3, hn3, hbd3, hkb, hob3⟩
            have HKb0 := hkb
            have HKwb := Lib.hid ((HKwa.out.alloc (.cells #[.string ByteArray.empty, .slice none 0 0, .slice none 0 0] 30)).trans hkb fun b hb => .inr (by rcases hb with h | h; omega; have := HVB2.out b h; omega))
            have HMS := Lib.hid (((HPOST.out.2 (by decide)).kept0 ((Kept.refl _ _).alloc (.cells #[.string ByteArray.empty, .slice none 0 0, .slice none 0 0] 30))).kept hkb (by rintro (e | e); omega; have := HVB2.out _ e; omega) (fun b hb => absurd hb ob_nil))
            clear hbd3 hkb hob3 HKb0
            go_wp2_with fail
            refine (busy_calls _ w1.heap.size 2 none _ HMS.out).mono ?_
            rintro en _ ⟨rfl, rfl⟩
            go_wp2_with fail
            go_ret
            exact ⟨rfl, HKwb.out⟩
        · rw [if_neg hfull] at hbp
          have hl3 : (lo ++ (x ++ [13, 10])).length ≤ 1000 := by rw [List.length_append]; omega
          have HBP := Lib.hid hbp
          clear hbp hfull
          rcases hcase with ⟨h0, hxs⟩ | ⟨b, r, h0, hb46, hxs⟩ | ⟨r, h0, hxs⟩
          · have k1 : ¬ (0 : Int) < (x.length : Int) := by rw [h0]; decide
            obtain rfl : y = x := hxs
            clear h0
            go_wp2_with fail
            refine (line_bodied wr _ [43] _ v q lo y n1 vb false 0 _ (.inl rfl) HMK.out HBP.out hlo hyl (by omega)).mono ?_
            rintro en wa ⟨rfl, hka, hpost⟩
            have hsa := hka.size
            have HBDa := Lib.hid (HBD.out.kept hka (by rintro (e | e | e); omega; omega; have := HVB.out _ e; omega) (fun b hb => by have := HVB2.out b hb; rintro (e | e | e); omega; omega; exact HDJ.out b e hb))
            have HKa := Lib.hid (HKR.out.trans hka fun b hb => by rcases hb with h | h | h; exact .inl (.inl h); exact .inl (.inr (.inl h)); exact .inr (HVB.out b h))
            have HKwa := Lib.hid (HKW0.out.trans hka fun b hb => .inr (by rcases hb with h | h | h; omega; omega; have := HVB.out b h; omega))
            have HPOST := Lib.hid hpost
            clear hka hpost
            go_wp2_with fail
            refine (refLine_calls _ W.heap.size 1000 lo y n2 vb2 _ HBP.out (HBDa.out.kept0 ((Kept.refl _ _).alloc _)) (by decide) hlo (by omega) (by omega)).mono ?_
            rintro en wb ⟨rfl, vb3, n3, hn3, hbd3, hkb, hob3⟩
            have HKb0 := hkb
            have HKwb := Lib.hid ((HKwa.out.alloc (.cells #[.string ByteArray.empty, .slice none 0 0, .slice none 0 0] 30)).trans hkb fun b hb => .inr (by rcases hb with h | h; omega; have := HVB2.out b h; omega))
            obtain ⟨vb', n', hn', hmk', hat'⟩ := HPOST.out.1 rfl
            have hlt' : ∀ k, OB vb' k → k < wa.heap.size := fun k hk => hmk'.2.2.2.lt hk
            have hdj' : ∀ k, OB vb' k → ¬ OB vb2 k := fun k hk h2 => (hat' k hk).elim (fun h => HDJ.out k h h2) fun h => by have := HBL.out k h2; omega
            have hge' : ∀ k, OB vb' k → W9.heap.size ≤ k := fun k hk => (hat' k hk).elim (HVB.out k) fun h => by omega
            have HMKb := Lib.hid ((hmk'.kept0 ((Kept.refl _ _).alloc (.cells #[.string ByteArray.empty, .slice none 0 0, .slice none 0 0] 30))).kept hkb (by rintro (e | e); omega; have := HVB2.out _ e; omega) (by rintro (e | e); omega; exact absurd rfl (fun (_ : q = q) => by have := hmk'.2.2.1.lt; have h2 := HBDa.out.2.ne_blk hmk'.2.2.1 (by decide); exact h2 e)) (fun b hb => by rintro (e | e); (have := HV6.out b hb; omega); exact HVV.out b hb e) (fun b hb => by rintro (e | e); (have := hge' b hb; omega); exact hdj' b hb e))
            have HBDb := Lib.hid hbd3
            have HKb := Lib.hid ((HKa.out.alloc (.cells #[.string ByteArray.empty, .slice none 0 0, .slice none 0 0] 30)).trans hkb fun b hb => by rcases hb with h | h; exact .inl (.inr (.inr h)); exact .inr (HVB2.out b h))
            have HDJb : Hid (∀ k, OB vb' k → ¬ OB vb3 k) := fun k hk h3 => (hob3 k h3).elim (hdj' k hk) fun h => by rw [World.size_alloc] at h; have := hlt' k hk; omega
            have HVBb := Lib.hid hge'
            have HVBc : Hid (∀ k, OB vb3 k → W9.heap.size ≤ k) := fun k hk => (hob3 k hk).elim (HVB2.out k) fun h => by rw [World.size_alloc] at h; omega
            clear hbd3 hkb hob3 HKb0 hmk' hat' hlt' hdj' hge'
            go_wp2_with fail
            go_roundg (fl.length - (i + 1))
            case measure => have := HG.out; omega
            case rel => exact ⟨i + 1, vb', n', vb3, n3, hlt, rfl, by go_num, by rw [HSU.out]; exact HMKb.out, by rw [HSU.out]; exact HBDb.out, by rw [HSU.out]; exact hl3, by omega, by omega, HVBb.out, HVBc.out, HDJb.out, HKb.out⟩
          · have k1 : (0 : Int) < (x.length : Int) := by rw [h0]; simp
            have kz : 0 < (strB x).size := by rw [strB_size]; omega
            have kb : ((strB x)[0]'kz) = b := by
              have := strB_getI x 0 kz
              rw [this]
              simp [h0]
            obtain ⟨z, hz⟩ : ∃ z : Nat, b.toNat = z := ⟨_, rfl⟩
            have kb' : ((strB x)[0]'kz).toNat = z := by rw [kb, hz]
            have k2 : ((z : Int) == 46) = false := by
              rw [beq_eq_false_iff_ne]
              intro e
              exact hb46 (UInt8.toNat_inj.1 (by rw [hz]; show z = 46; omega))
            obtain rfl : y = x := hxs
            clear h0 kb hz hb46
            go_wp2_with fail
            refine (line_bodied wr _ [43] _ v q lo y n1 vb false 0 _ (.inl rfl) HMK.out HBP.out hlo hyl (by omega)).mono ?_
            rintro en wa ⟨rfl, hka, hpost⟩
            have hsa := hka.size
            have HBDa := Lib.hid (HBD.out.kept hka (by rintro (e | e | e); omega; omega; have := HVB.out _ e; omega) (fun b hb => by have := HVB2.out b hb; rintro (e | e | e); omega; omega; exact HDJ.out b e hb))
            have HKa := Lib.hid (HKR.out.trans hka fun b hb => by rcases hb with h | h | h; exact .inl (.inl h); exact .inl (.inr (.inl h)); exact .inr (HVB.out b h))
            have HKwa := Lib.hid (HKW0.out.trans hka fun b hb => .inr (by rcases hb with h | h | h; omega; omega; have := HVB.out b h; omega))
            have HPOST := Lib.hid hpost
            clear hka hpost
            go_wp2_with fail
            refine (refLine_calls _ W.heap.size 1000 lo y n2 vb2 _ HBP.out (HBDa.out.kept0 ((Kept.refl _ _).alloc _)) (by decide) hlo (by omega) (by omega)).mono ?_
            rintro en wb ⟨rfl, vb3, n3, hn3, hbd3, hkb, hob3⟩
            have HKb0 := hkb
            have HKwb := Lib.hid ((HKwa.out.alloc (.cells #[.string ByteArray.empty, .slice none 0 0, .slice none 0 0] 30)).trans hkb fun b hb => .inr (by rcases hb with h | h; omega; have := HVB2.out b h; omega))
            obtain ⟨vb', n', hn', hmk', hat'⟩ := HPOST.out.1 rfl
            have hlt' : ∀ k, OB vb' k → k < wa.heap.size := fun k hk => hmk'.2.2.2.lt hk
            have hdj' : ∀ k, OB vb' k → ¬ OB vb2 k := fun k hk h2 => (hat' k hk).elim (fun h => HDJ.out k h h2) fun h => by have := HBL.out k h2; omega
            have hge' : ∀ k, OB vb' k → W9.heap.size ≤ k := fun k hk => (hat' k hk).elim (HVB.out k) fun h => by omega
            have HMKb := Lib.hid ((hmk'.kept0 ((Kept.refl _ _).alloc (.cells #[.string ByteArray.empty, .slice none 0 0, .slice none 0 0] 30))).kept hkb (by rintro (e | e); omega; have := HVB2.out _ e; omega) (by rintro (e | e); omega; exact absurd rfl (fun (_ : q = q) => by have := hmk'.2.2.1.lt; have h2 := HBDa.out.2.ne_blk hmk'.2.2.1 (by decide); exact h2 e)) (fun b hb => by rintro (e | e); (have := HV6.out b hb; omega); exact HVV.out b hb e) (fun b hb => by rintro (e | e); (have := hge' b hb; omega); exact hdj' b hb e))
            have HBDb := Lib.hid hbd3
            have HKb := Lib.hid ((HKa.out.alloc (.cells #[.string ByteArray.empty, .slice none 0 0, .slice none 0 0] 30)).trans hkb fun b hb => by rcases hb with h | h; exact .inl (.inr (.inr h)); exact .inr (HVB2.out b h))
            have HDJb : Hid (∀ k, OB vb' k → ¬ OB vb3 k) := fun k hk h3 => (hob3 k h3).elim (hdj' k hk) fun h => by rw [World.size_alloc] at h; have := hlt' k hk; omega
            have HVBb := Lib.hid hge'
            have HVBc : Hid (∀ k, OB vb3 k → W9.heap.size ≤ k) := fun k hk => (hob3 k hk).elim (HVB2.out k) fun h => by rw [World.size_alloc] at h; omega
            clear hbd3 hkb hob3 HKb0 hmk' hat' hlt' hdj' hge'
            go_wp2_with fail
            go_roundg (fl.length - (i + 1))
            case measure => have := HG.out; omega
            case rel => exact ⟨i + 1, vb', n', vb3, n3, hlt, rfl, by go_num, by rw [HSU.out]; exact HMKb.out, by rw [HSU.out]; exact HBDb.out, by rw [HSU.out]; exact hl3, by omega, by omega, HVBb.out, HVBc.out, HDJb.out, HKb.out⟩
          · have k1 : (0 : Int) < (x.length : Int) := by rw [h0]; simp
            have kz : 0 < (strB x).size := by rw [strB_size]; omega
            have kb : ((strB x)[0]'kz) = 46 := by
              have := strB_getI x 0 kz
              rw [this]
              simp [h0]
            have kb' : ((strB x)[0]'kz).toNat = 46 := by rw [kb]; rfl
            clear h0 kb
            rw [← hxs] at e1
            clear hxs
            go_wp2_with fail
            refine (line_bodied wr _ [43] _ v q lo y n1 vb false 0 _ (.inl rfl) HMK.out HBP.out hlo hyl (by omega)).mono ?_
            rintro en wa ⟨rfl, hka, hpost⟩
            have hsa := hka.size
            have HBDa := Lib.hid (HBD.out.kept hka (by rintro (e | e | e); omega; omega; have := HVB.out _ e; omega) (fun b hb => by have := HVB2.out b hb; rintro (e | e | e); omega; omega; exact HDJ.out b e hb))
            have HKa := Lib.hid (HKR.out.trans hka fun b hb => by rcases hb with h | h | h; exact .inl (.inl h); exact .inl (.inr (.inl h)); exact .inr (HVB.out b h))
            have HKwa := Lib.hid (HKW0.out.trans hka fun b hb => .inr (by rcases hb with h | h | h; omega; omega; have := HVB.out b h; omega))
            have HPOST := Lib.hid hpost
            clear hka hpost
            go_wp2_with fail
            refine (refLine_calls _ W.heap.size 1000 lo y n2 vb2 _ HBP.out (HBDa.out.kept0 ((Kept.refl _ _).alloc _)) (by decide) hlo (by omega) (by omega)).mono ?_
            rintro en wb ⟨rfl, vb3, n3, hn3, hbd3, hkb, hob3⟩
            have HKb0 := hkb
            have HKwb := Lib.hid ((HKwa.out.alloc (.cells #[.string ByteArray.empty, .slice none 0 0, .slice none 0 0] 30)).trans hkb fun b hb => .inr (by rcases hb with h | h; omega; have := HVB2.out b h; omega))
            obtain ⟨vb', n', hn', hmk', hat'⟩ := HPOST.out.1 rfl
            have hlt' : ∀ k, OB vb' k → k < wa.heap.size := fun k hk => hmk'.2.2.2.lt hk
            have hdj' : ∀ k, OB vb' k → ¬ OB vb2 k := fun k hk h2 => (hat' k hk).elim (fun h => HDJ.out k h h2) fun h => by have := HBL.out k h2; omega
            have hge' : ∀ k, OB vb' k → W9.heap.size ≤ k := fun k hk => (hat' k hk).elim (HVB.out k) fun h => by omega
            have HMKb := Lib.hid ((hmk'.kept0 ((Kept.refl _ _).alloc (.cells #[.string ByteArray.empty, .slice none 0 0, .slice none 0 0] 30))).kept hkb (by rintro (e | e); omega; have := HVB2.out _ e; omega) (by rintro (e | e); omega; exact absurd rfl (fun (_ : q = q) => by have := hmk'.2.2.1.lt; have h2 := HBDa.out.2.ne_blk hmk'.2.2.1 (by decide); exact h2 e)) (fun b hb => by rintro (e | e); (have := HV6.out b hb; omega); exact HVV.out b hb e) (fun b hb => by rintro (e | e); (have := hge' b hb; omega); exact hdj' b hb e))
            have HBDb := Lib.hid hbd3
            have HKb := Lib.hid ((HKa.out.alloc (.cells #[.string ByteArray.empty, .slice none 0 0, .slice none 0 0] 30)).trans hkb fun b hb => by rcases hb with h | h; exact .inl (.inr (.inr h)); exact .inr (HVB2.out b h))
            have HDJb : Hid (∀ k, OB vb' k → ¬ OB vb3 k) := fun k hk h3 => (hob3 k h3).elim (hdj' k hk) fun h => by rw [World.size_alloc] at h; have := hlt' k hk; omega
            have HVBb := Lib.hid hge'
            have HVBc : Hid (∀ k, OB vb3 k → W9.heap.size ≤ k) := fun k hk => (hob3 k hk).elim (HVB2.out k) fun h => by rw [World.size_alloc] at h; omega
            clear hbd3 hkb hob3 HKb0 hmk' hat' hlt' hdj' hge'
            go_wp2_with fail
            go_roundg (fl.length - (i + 1))
            case measure => have := HG.out; omega
            case rel => exact ⟨i + 1, vb', n', vb3, n3, hlt, rfl, by go_num, by rw [HSU.out]; exact HMKb.out, by rw [HSU.out]; exact HBDb.out, by rw [HSU.out]; exact hl3, by omega, by omega, HVBb.out, HVBc.out, HDJb.out, HKb.out⟩
      · obtain rfl : i = fl.length := by omega
        have ti : ¬ ((fl.length : Int) : Int) < (fl.length : Int) := by omega
        go_wp2_with fail
        refine (line_end wr _ [43] _ v q lo n1 vb false HMK.out hlo (by omega)).mono ?_
        rintro en wa ⟨vx, rfl, hrv, hrx, hst, hka⟩
        have hsa := hka.size
        have HKwa := Lib.hid (HKW0.out.trans hka fun b hb => .inr (by rcases hb with h | h | h; omega; omega; have := HVB.out b h; omega))
        have HRa := Lib.hid (HRr.out.kept hka (fun b _ hb e => by rcases e with h | h | h; omega; omega; have := HVB.out b h; omega))
        obtain ⟨Av, nv, cv, rfl⟩ := hrv.slice
        obtain ⟨Ax, cx, rfl, hcx, hrdx⟩ := hrx.readsN (n := lo.length) (b8s_length lo)
        have HRX := Lib.hid hrdx
        have HST := Lib.hid hst
        clear hrv hrx hst hka hrdx
        have HXR := Lib.hid (Blk.new wa 30 #[.string (strB [43]), .slice Av nv cv, .slice Ax lo.length cx])
        have HKA2 : Hid (Kept wa (wa.alloc (.cells #[.string (strB [43]), .slice Av nv cv, .slice Ax lo.length cx] 30)) NoB) := (Kept.refl _ _).alloc _
        go_wp2_with fail
        go_loopg [26, 27] fl.length (fun gk v26 v27 wr2 => TxtS (wa.alloc (.cells #[.string (strB [43]), .slice Av nv cv, .slice Ax lo.length cx] 30)) fl fl.length gk v26 v27 wr2)
        case atStart => exact ⟨0, Nat.zero_le _, rfl, rfl, rfl, Kept.refl _ _⟩
        case round =>
          obtain ⟨j, hj, hgk, rfl, rfl, hkr2⟩ := hrel
          have HG2 := Lib.hid hgk
          have HKR2 := Lib.hid hkr2
          have HK2w := Lib.hid ((HKwa.out.trans' HKA2.out).trans' hkr2)
          have HRj := Lib.hid ((HRa.out.kept0 HKA2.out).kept0 hkr2)
          clear hgk hkr2
          rcases Nat.lt_or_ge j fl.length with hlt | hge2
          · have hjl : j < fl.length := by have := HLN.out; omega
            obtain ⟨ad, u, hAd, hu, hcell⟩ := HRj.out.at_ hlt
            subst hAd
            rw [strs_at fl j hjl] at hu
            injection hu with hu
            subst hu
            have hxl := HLE.out fl[j] (List.getElem_mem hjl)
            have hsucc := outL_succ fl hjl
            have hol := outL_len (fl.take j) fun y hy => HLE.out y (List.mem_of_mem_take hy)
            rw [List.length_take] at hol
            obtain ⟨x, hx⟩ : ∃ x, fl[j] = x := ⟨_, rfl⟩
            rw [hx] at hcell hxl hsucc
            obtain ⟨o, ho⟩ : ∃ o, outL (fl.take j) = o := ⟨_, rfl⟩
            rw [ho] at hsucc hol ⊢
            have HSU := Lib.hid hsucc
            have tj : (j : Int) < (fl.length : Int) := by omega
            have hszx := strB_size x
            have hszo := strB_size o
            have e1 : strB o ++ strB x = strB (o ++ x) := strB_app o x
            have e2 : strB (o ++ x) ++ (⟨#[13, 10]⟩ : ByteArray) = strB ((o ++ x) ++ [13, 10]) := strB_app (o ++ x) [13, 10]
            have hpl : (o ++ x).length = o.length + x.length := List.length_append
            obtain ⟨pp, hpp⟩ : ∃ p, o ++ x = p := ⟨_, rfl⟩
            rw [hpp] at e1 e2 hpl
            have hszp := strB_size pp
            have HPP := Lib.hid hpp
            have z1 : ¬ (9223372036854775807 < o.length + x.length) := by omega
            have z2 : ¬ (9223372036854775807 < pp.length + 2) := by omega
            clear hx ho hsucc hpp
            go_wp2_with fail
            go_roundg (fl.length - (j + 1))
            case measure => have := HG2.out; omega
            case rel => exact ⟨j + 1, hlt, rfl, by go_num, by rw [HSU.out, ← HPP.out, List.append_assoc], HKR2.out⟩
          · obtain rfl : j = fl.length := by omega
            have tj : ¬ ((fl.length : Int) : Int) < (fl.length : Int) := by omega
            rw [HLO.out]
            obtain ⟨x0, x1, x2, _, _, _⟩ := (HXR.out.kept0 HKR2.out).cells3
            have hrd2 := (HRX.out.kept0 HKA2.out).kept0 HKR2.out
            have kcv := hrd2.string 28 5 9 Tryd.underlying28 Tryd.underlying5 Tryd.underlying9 cx
            have HMS := Lib.hid ((HST.out.kept0 HKA2.out).kept0 HKR2.out)
            have q3 : (lo == lo) = true := by rw [beq_iff_eq]
            clear hrd2
            go_wp2_with fail
            refine (busy_calls _ w1.heap.size 2 none _ HMS.out).mono ?_
            rintro en _ ⟨rfl, rfl⟩
            go_wp2_with fail
            go_ret
            exact ⟨rfl, HK2w.out⟩
theorem replyBodies_walk (W : World) (a0 : Option Addr) (len0 cap0 : Nat) (z0 : List ByteArray) (w0 : IsStrs W a0 len0 cap0 z0) (hsh : W.ShapedOpen Tryd.prog) :
    Calls Tryd.prog 5 #[.slice a0 len0 cap0] W fun en w' => en = .returned (.bool true) ∧ Below W.heap.size W w' := by
  obtain ⟨hr1, hc1, hl1, hs1⟩ := w0.reads
  have e : ∀ zs : List ByteArray, zs.map Value.string = strs (zs.map fun s => s.data.toList) := fun zs => by
    unfold strs
    rw [List.map_map]
    exact List.map_congr_left fun s _ => by simp [strB_data]
  have el : ∀ zs : List ByteArray, (∀ s ∈ zs, s.size ≤ maxLen) → ∀ x ∈ zs.map (fun s => s.data.toList), x.length ≤ 9223372036854775807 := fun zs h x hx => by
    obtain ⟨s, hs, rfl⟩ := List.mem_map.1 hx
    have := h s hs
    unfold maxLen at this
    rw [Array.length_toList]
    exact this
  rw [e] at hr1
  have hm := MaxI.of_shape hsh
  exact (bodies_law W _ a0 len0 cap0 _ hr1 w0.len_le (el _ hs1) hm).mono fun _ _ ⟨he, hk⟩ => ⟨he, hk.below⟩
end Go.Proofs.YtamemddgajmimaaDoor
