/- ReplyCodes' walk. -/
import Derived.Test.YtamemddgajmimaaDoorRepD
set_option linter.unusedVariables false
set_option linter.unusedSimpArgs false
namespace Go.Proofs.YtamemddgajmimaaDoor
open Go.RowKit Go.Shelf

theorem code_status {p : Int} (hp : p = 1 ∨ p = 3) {code : List UInt8} (hc : code.length = 3) (hn : numL code = true) (c : UInt8) (t : List UInt8) : statusL p (code ++ c :: t) = if c = 45 then some (code, true, t) else if c = 32 then some (code, false, t) else none := by
  rw [statusL, if_pos hp, numbered_code hc hn]
  rfl
def val3 (l : List UInt8) : Nat := match l with | [a, b, c] => (a.toNat - 48) * 100 + (b.toNat - 48) * 10 + (c.toNat - 48) | _ => 0
theorem val3_dig3 : ∀ k : Fin 1000, val3 (dig3 k.val) = k.val := by decide +kernel
theorem dig3_inj {a b : Nat} (ha : a < 1000) (hb : b < 1000) (h : dig3 a = dig3 b) : a = b := by
  have h1 := val3_dig3 ⟨a, ha⟩
  have h2 := val3_dig3 ⟨b, hb⟩
  simp only at h1 h2
  rw [← h1, ← h2, h]
theorem dig3_code (a : Nat) (h : a < 256) : numL (dig3 (200 + a)) = true := by
  have := dig3_num ⟨100 + a, by omega⟩
  rwa [show 100 + (⟨100 + a, by omega⟩ : Fin 500).val = 200 + a by show 100 + (100 + a) = 200 + a; omega] at this
section
variable {x y t : List UInt8}
theorem codes_first {p : Int} (hp : p = 1 ∨ p = 3) (hx : x.length = 3) (hn : numL x = true) : stepM p none (x ++ 45 :: t) = (none, 0, some (x, [t])) := by
  have h := code_status hp hx hn 45 t
  rw [if_pos rfl] at h
  simp [stepM, h]
theorem codes_same1 (hx : x.length = 3) (hn : numL x = true) : stepM 1 (some (x, [t])) (x ++ 32 :: t) = (some (x, [t, t]), 0, none) := by
  have h := code_status (.inl rfl) hx hn 32 t
  rw [if_neg (by decide), if_pos rfl] at h
  rw [stepM1 h rfl]
  rfl
theorem codes_same3 (hx : x.length = 3) (hn : numL x = true) : stepM 3 (some (x, [t])) (x ++ 32 :: t) = (some (x, [t, t]), 0, none) := by
  have h := code_status (.inr rfl) hx hn 32 t
  rw [if_neg (by decide), if_pos rfl] at h
  have hf : lastF 3 x (x ++ 32 :: t) = some t := by simp [lastF, h]
  rw [stepM3, hf]
  rfl
theorem codes_other1 (hy : y.length = 3) (hn : numL y = true) (hne : y ≠ x) : stepM 1 (some (x, [t])) (y ++ 32 :: t) = (none, 63, none) := by
  have h := code_status (.inl rfl) hy hn 32 t
  rw [if_neg (by decide), if_pos rfl] at h
  refine stepM1_bad fun m u e => ?_
  rw [h] at e
  injection e with e
  injection e with e _
  exact hne e
theorem codes_other3 (hy : y.length = 3) (hn : numL y = true) (hne : y ≠ x) : stepM 3 (some (x, [t])) (y ++ 32 :: t) = (none, 0, some (x, [t, y ++ 32 :: t])) := by
  have h := code_status (.inr rfl) hy hn 32 t
  rw [if_neg (by decide), if_pos rfl] at h
  have hf : lastF 3 x (y ++ 32 :: t) = none := by simp [lastF, h, hne]
  rw [stepM3, hf]
  rfl
end
/-- Both makers' states, apart. -/
structure Two (w : World) (B : Nat) (g o : Nat) (s1 s3 : Option Rp) (v u : Value) : Prop where
  mg : MkSt w g 1 s1 v
  mo : MkSt w o 3 s3 u
  hg : B ≤ g
  ho : B ≤ o
  go : g ≠ o
  hv : ∀ k, OB v k → B ≤ k
  hu : ∀ k, OB u k → B ≤ k
  hvu : ∀ k, OB v k → ¬ OB u k
theorem MkSt.nob {w : World} {g : Nat} {proto : Int} {st : Option Rp} {v : Value} {cs : Array Value} {h : Nat} (hm : MkSt w g proto st v) (hb : Blk w h 51 cs) : ¬ OB v h := by
  cases st with
  | none => rw [hm.2]; exact ob_nil
  | some q => exact ob_far hb hm.2.2.2
section
variable {w w' : World} {B g o : Nat} {s1 s3 r : Option Rp} {v u v' : Value}
theorem Two.lineG (h : Two w B g o s1 s3 v u) (hB : B ≤ w.heap.size) (hm : MkSt w' g 1 r v') (hk : Kept w w' (fun k => k = g ∨ OB v k)) (ho : ∀ k, OB v' k → OB v k ∨ w.heap.size ≤ k) : Two w' B g o r s3 v' u := by
  obtain ⟨co, hco⟩ := h.mo.blk
  have hno : ¬ OB v o := h.mg.nob hco
  obtain ⟨cg, hcg⟩ := h.mg.blk
  have hnu : ¬ OB u g := h.mo.nob hcg
  refine ⟨hm, h.mo.kept hk ?_ ?_, h.hg, h.ho, h.go, fun k hk' => (ho k hk').elim (h.hv k) fun e => by omega, h.hu, fun k hk' hu => ?_⟩
  · rintro (e | e)
    · exact h.go e.symm
    · exact hno e
  · rintro b hb (rfl | e)
    · exact hnu hb
    · exact h.hvu _ e hb
  · rcases ho k hk' with e | e
    · exact h.hvu k e hu
    · exact absurd (h.mo.obl k hu) (by omega)
theorem Two.lineO (h : Two w B g o s1 s3 v u) (hB : B ≤ w.heap.size) {u' : Value} (hm : MkSt w' o 3 r u') (hk : Kept w w' (fun k => k = o ∨ OB u k)) (ho : ∀ k, OB u' k → OB u k ∨ w.heap.size ≤ k) : Two w' B g o s1 r v u' := by
  obtain ⟨co, hco⟩ := h.mo.blk
  have hno : ¬ OB v o := h.mg.nob hco
  obtain ⟨cg, hcg⟩ := h.mg.blk
  have hnu : ¬ OB u g := h.mo.nob hcg
  refine ⟨h.mg.kept hk ?_ ?_, hm, h.hg, h.ho, h.go, h.hv, fun k hk' => (ho k hk').elim (h.hu k) fun e => by omega, fun k hv hk' => ?_⟩
  · rintro (e | e)
    · exact h.go e
    · exact hnu e
  · rintro b hb (rfl | e)
    · exact hno hb
    · exact h.hvu _ hb e
  · rcases ho k hk' with e | e
    · exact h.hvu k hv e
    · exact absurd (h.mg.obl k hv) (by omega)
theorem Two.kept0 (h : Two w B g o s1 s3 v u) (k : Kept w w' NoB) : Two w' B g o s1 s3 v u := ⟨h.mg.kept0 k, h.mo.kept0 k, h.hg, h.ho, h.go, h.hv, h.hu, h.hvu⟩
theorem Two.outG (h : Two w B g o s1 s3 v u) {a : World} (ha : a.heap.size = B) (k0 : Kept a w NoB) (hk : Kept w w' (fun k => k = g ∨ OB v k)) : Kept a w' NoB := k0.trans hk fun b hb => .inr (by
  rcases hb with rfl | hb
  · rw [ha]; exact h.hg
  · rw [ha]; exact h.hv b hb)
theorem Two.outO (h : Two w B g o s1 s3 v u) {a : World} (ha : a.heap.size = B) (k0 : Kept a w NoB) (hk : Kept w w' (fun k => k = o ∨ OB u k)) : Kept a w' NoB := k0.trans hk fun b hb => .inr (by
  rcases hb with rfl | hb
  · rw [ha]; exact h.ho
  · rw [ha]; exact h.hu b hb)
end
set_option maxHeartbeats 8000000 in
set_option maxRecDepth 100000 in
theorem codes_law (w : World) (a b : Nat) (t0 : List UInt8) (ha : a < 256) (hb : b < 256) (ht0 : t0.length ≤ 140737488351232) (hm : MaxI w) :
    Calls Tryd.prog 7 #[.int .u8 (a : Int), .int .u8 (b : Int), .string (strB t0)] w fun en w' => en = .returned (.bool true) ∧ Kept w w' NoB := by
  go_enter Tryd.func7, Tryd.ntmps7
  go_wp2_with fail
  refine (shown_calls w hm).mono ?_
  rintro en w1 ⟨rfl, hk1⟩
  have HK1 := Lib.hid hk1
  have hsz1 := hk1.size
  clear hk1
  go_wp2_with fail
  refine (new_calls w1 1).mono ?_
  rintro en w2 ⟨rfl, hw2⟩
  have h2 := MkSt.new w1 1
  rw [← hw2] at h2
  have hk2 : Kept w1 w2 NoB := by rw [hw2]; exact (Kept.refl _ _).alloc _
  have H2 := Lib.hid h2
  have HK2 := Lib.hid hk2
  have hg2 := h2.lt
  clear hw2 h2 hk2
  go_wp2_with fail
  refine (new_calls w2 3).mono ?_
  rintro en w3 ⟨rfl, hw3⟩
  have h3 := MkSt.new w2 3
  rw [← hw3] at h3
  have hk3 : Kept w2 w3 NoB := by rw [hw3]; exact (Kept.refl _ _).alloc _
  have HK3 := Lib.hid ((HK1.out.trans' HK2.out).trans' hk3)
  have HK32 := Lib.hid hk3
  have ho3 := h3.lt
  have h33 := hk3.size
  have HT3 : Hid (Two w3 w1.heap.size w1.heap.size w2.heap.size none none (.slice none 0 0) (.slice none 0 0)) := ⟨H2.out.kept0 hk3, h3, Nat.le_refl _, by omega, by omega, fun k hk => absurd hk ob_nil, fun k hk => absurd hk ob_nil, fun k hk => absurd hk ob_nil⟩
  clear hw3 h3 hk3
  obtain ⟨t, ht⟩ : ∃ t, t0.take 200 = t := ⟨_, rfl⟩
  have htl : t.length ≤ 200 := by rw [← ht, List.length_take]; omega
  have X3 : Hid ((dig3 (200 + a)).length = 3) := rfl
  have Y3 : Hid ((dig3 (200 + b)).length = 3) := rfl
  have XN := Lib.hid (dig3_code a ha)
  have YN := Lib.hid (dig3_code b hb)
  have hxy : a ≠ b → dig3 (200 + b) ≠ dig3 (200 + a) := fun h e => h (by have := dig3_inj (by omega) (by omega) e; omega)
  have HXY := Lib.hid hxy
  have hdx := fun W : World => digits_calls W (200 + a) (by omega) (by omega)
  have hdy := fun W : World => digits_calls W (200 + b) (by omega) (by omega)
  have hyx : a = b → dig3 (200 + b) = dig3 (200 + a) := fun h => by rw [h]
  have HYX := Lib.hid hyx
  obtain ⟨x, hx⟩ : ∃ x, dig3 (200 + a) = x := ⟨_, rfl⟩
  obtain ⟨y, hy⟩ : ∃ y, dig3 (200 + b) = y := ⟨_, rfl⟩
  simp only [hx] at X3 XN HXY HYX hdx
  simp only [hy] at Y3 YN HXY HYX hdy
  have HDX := Lib.hid hdx
  have HDY := Lib.hid hdy
  have hxl : x.length ≤ 3 := by have := X3.out; omega
  have hyl : y.length ≤ 3 := by have := Y3.out; omega
  have e1 : strB x ++ (⟨#[45]⟩ : ByteArray) = strB (x ++ [45]) := strB_app x [45]
  have e2 : strB (x ++ [45]) ++ strB t = strB (x ++ 45 :: t) := by rw [strB_app]; simp
  have e3 : strB y ++ (⟨#[32]⟩ : ByteArray) = strB (y ++ [32]) := strB_app y [32]
  have e4 : strB (y ++ [32]) ++ strB t = strB (y ++ 32 :: t) := by rw [strB_app]; simp
  have l1 : (x ++ 45 :: t).length ≤ 300 := by simp; omega
  have l2 : (y ++ 32 :: t).length ≤ 300 := by simp; omega
  have lu1 : (x ++ [45]).length ≤ 4 := by simp; omega
  have lu2 : (y ++ [32]).length ≤ 4 := by simp; omega
  have S1 := Lib.hid (codes_first (t := t) (.inl rfl : (1 : Int) = 1 ∨ (1 : Int) = 3) X3.out XN.out)
  have S3 := Lib.hid (codes_first (t := t) (.inr rfl : (3 : Int) = 1 ∨ (3 : Int) = 3) X3.out XN.out)
  have T1 : Hid (a = b → stepM 1 (some (x, [t])) (y ++ 32 :: t) = (some (x, [t, t]), 0, none)) := fun h => by rw [HYX.out h]; exact codes_same1 X3.out XN.out
  have T3 : Hid (a = b → stepM 3 (some (x, [t])) (y ++ 32 :: t) = (some (x, [t, t]), 0, none)) := fun h => by rw [HYX.out h]; exact codes_same3 X3.out XN.out
  have O1 : Hid (a ≠ b → stepM 1 (some (x, [t])) (y ++ 32 :: t) = (none, 63, none)) := fun h => codes_other1 Y3.out YN.out (HXY.out h)
  have O3 : Hid (a ≠ b → stepM 3 (some (x, [t])) (y ++ 32 :: t) = (none, 0, some (x, [t, y ++ 32 :: t]))) := fun h => codes_other3 Y3.out YN.out (HXY.out h)
  obtain ⟨s1, hs1⟩ : ∃ s, x ++ 45 :: t = s := ⟨_, rfl⟩
  obtain ⟨s2, hs2⟩ : ∃ s, y ++ 32 :: t = s := ⟨_, rfl⟩
  obtain ⟨u1, hu1⟩ : ∃ s, x ++ [45] = s := ⟨_, rfl⟩
  obtain ⟨u2, hu2⟩ : ∃ s, y ++ [32] = s := ⟨_, rfl⟩
  rw [hs1] at e2 l1 S1 S3
  rw [hs2] at e4 l2 T1 T3 O1 O3
  rw [hu1] at e1 e2 lu1
  rw [hu2] at e3 e4 lu2
  have z1 : ¬ (9223372036854775807 < x.length + 1) := by omega
  have z2 : ¬ (9223372036854775807 < u1.length + t.length) := by omega
  have z3 : ¬ (9223372036854775807 < y.length + 1) := by omega
  have z4 : ¬ (9223372036854775807 < u2.length + t.length) := by omega
  clear hs1 hs2 hu1 hu2 hx hy hdx hdy hxy hyx X3 Y3 XN YN
  have hcase : (200 < t0.length ∧ (strB t0).extract 0 200 = strB t) ∨ (¬ 200 < t0.length ∧ t0 = t) := by
    by_cases h : 200 < t0.length
    · refine .inl ⟨h, ?_⟩
      have := strB_cut t0 0 200
      simp only [List.drop_zero, Nat.sub_zero] at this
      rw [this, ht]
    · exact .inr ⟨h, by rw [← ht, List.take_of_length_le (by omega)]⟩
  clear ht
  rcases hcase with ⟨hlong, hcut⟩ | ⟨hshort, heq⟩
  · have tl : (200 : Int) < (t0.length : Int) := by omega
    have tz : 200 ≤ t0.length := by omega
    clear hlong
    go_wp2_with fail
    refine (HDX.out _).mono ?_
    rintro en wa ⟨rfl, rfl⟩
    go_wp2_with fail
    refine (HDY.out _).mono ?_
    rintro en wa ⟨rfl, rfl⟩
    go_wp2_with fail
    refine (line_at _ _ 1 none _ s1 false _ _ rfl S1.out HT3.out.mg (by omega) (hm.kept0 HK3.out) (by decide)).mono ?_
    rintro en w4 ⟨vr, v1, rfl, _, hg4, hk4, ho4, _⟩
    have HT4 := Lib.hid (HT3.out.lineG (by omega) hg4 hk4 ho4)
    have HK4 := Lib.hid (HT3.out.outG rfl (Kept.refl w1 NoB |>.trans' (HK2.out.trans' HK32.out)) hk4)
    clear hg4 hk4 ho4
    go_wp2_with fail
    refine (line_at _ _ 3 none _ s1 false _ _ rfl S3.out HT4.out.mo (by omega) (hm.kept0 (HK1.out.trans' HK4.out)) (by decide)).mono ?_
    rintro en w5 ⟨ur, u1', rfl, _, hg5, hk5, ho5, _⟩
    have hb4 := HK4.out.size
    have HT5 := Lib.hid (HT4.out.lineO (by omega) hg5 hk5 ho5)
    have HK5 := Lib.hid (HT4.out.outO rfl HK4.out hk5)
    clear hg5 hk5 ho5
    by_cases hab : a = b
    · have st1 := T1.out hab
      have st3 := T3.out hab
      have ST1 := Lib.hid st1
      have ST3 := Lib.hid st3
      have tab : ((a : Int) == (b : Int)) = true := by rw [hab]; simp
      clear hab st1 st3
      go_wp2_with fail
      refine (line_at _ _ 1 _ _ s2 false _ _ rfl ST1.out HT5.out.mg (by omega) (hm.kept0 (HK1.out.trans' HK5.out)) (by decide)).mono ?_
      rintro en w6 ⟨vr6, v6, rfl, hr6, hg6, hk6, ho6, hor6⟩
      have hb5 := HK5.out.size
      simp only [rpV, Option.getD_some, Option.isSome_some] at hr6 ⊢
      obtain ⟨A6, c6, rfl, hc6, hR6⟩ := hr6.readsO (n := 2) rfl
      have HT6 := Lib.hid (HT5.out.lineG (by omega) hg6 hk6 ho6)
      have HK6 := Lib.hid (HT5.out.outG rfl HK5.out hk6)
      have hb6 := HK6.out.size
      have h56 := hk6.size
      have hXB := Lib.hid (Blk.new w6 30 #[.string (strB x), .slice A6 2 c6, .slice none 0 0])
      have HA6 := Lib.hid ((Kept.refl w6 NoB).alloc (.cells #[.string (strB x), .slice A6 2 c6, .slice none 0 0] 30))
      have HR6 := Lib.hid hR6
      have HRO6 := Lib.hid hr6
      have hO6 : ∀ k, OB (Value.slice A6 2 c6) k → ¬ OB u1' k := fun k hk hu => by
        rcases hor6 k hk with h | h
        · exact HT5.out.hvu k h hu
        · exact absurd (HT5.out.mo.obl k hu) (by omega)
      have HO6 := Lib.hid hO6
      clear hg6 hk6 ho6 hor6 hr6 hR6 hO6
      go_wp2_with fail
      refine (line_at _ _ 3 _ _ s2 false _ _ rfl ST3.out (HT6.out.kept0 HA6.out).mo (by omega) (hm.kept0 ((HK1.out.trans' HK6.out).trans' HA6.out)) (by decide)).mono ?_
      rintro en w7 ⟨vr7, v7, rfl, hr7, hg7, hk7, ho7, _⟩
      simp only [rpV, Option.getD_some, Option.isSome_some] at hr7 ⊢
      obtain ⟨A7, c7, rfl, hc7, hR7⟩ := hr7.readsO (n := 2) rfl
      have hsA : (w6.alloc (.cells #[.string (strB x), .slice A6 2 c6, .slice none 0 0] 30)).heap.size = w6.heap.size + 1 := World.size_alloc _ _
      have hk67 : Kept w6 w7 (fun k => k = w2.heap.size ∨ OB u1' k) := (HA6.out.of_no (S := fun k => k = w2.heap.size ∨ OB u1' k)).trans hk7 fun b hb => .inl hb
      have hnX : ¬ (w6.heap.size = w2.heap.size ∨ OB u1' w6.heap.size) := by
        have hlo := HT6.out.mo.lt
        rintro (e | e)
        · omega
        · exact absurd (HT6.out.mo.obl _ e) (Nat.lt_irrefl _)
      have hX7 := hXB.out.kept hk7 hnX
      obtain ⟨ocs, hocs⟩ := HT6.out.mo.blk
      have hR67 := HR6.out.kept hk67 (fun b _ hb e => by
        rcases e with rfl | e
        · exact ob_far hocs HRO6.out hb
        · exact HO6.out b hb e)
      obtain ⟨a6, hA6, _, ha6l, hc6'⟩ := hR67.2 (by decide)
      obtain ⟨a7, hA7, _, ha7l, hc7'⟩ := hR7.2 (by decide)
      have q6 : w7.cell? ⟨a6.block, a6.off + 1, none⟩ = some (.string (strB t)) := hc6' 1 _ rfl
      have q7 : w7.cell? ⟨a7.block, a7.off + 1, none⟩ = some (.string (strB t)) := hc7' 1 _ rfl
      subst hA6 hA7
      obtain ⟨x0, x1, x2, _, _, _⟩ := hX7.cells3
      have hxl7 := hX7.lt
      have HK7 := Lib.hid (HT6.out.outO rfl HK6.out hk67)
      clear hr7 hg7 hk7 ho7 hR7 hk67 hnX hX7 hR67 hc6' hc7' hocs
      go_wp2_with fail
      go_ret
      exact ⟨rfl, (HK1.out.trans' HK7.out).alloc _⟩
    · have st1 := O1.out hab
      have st3 := O3.out hab
      have ST1 := Lib.hid st1
      have ST3 := Lib.hid st3
      have tab : ((a : Int) == (b : Int)) = false := by rw [beq_eq_false_iff_ne]; omega
      clear hab st1 st3
      go_wp2_with fail
      refine (line_at _ _ 1 _ _ s2 false _ _ rfl ST1.out HT5.out.mg (by omega) (hm.kept0 (HK1.out.trans' HK5.out)) (by decide)).mono ?_
      rintro en w6 ⟨vr6, v6, rfl, hr6, hg6, hk6, ho6, hor6⟩
      have hb5 := HK5.out.size
      simp only [rpV, Option.getD_none, Option.isSome_none] at hr6 ⊢
      obtain ⟨A6, c6, rfl, hc6, hR6⟩ := hr6.readsO (n := 0) rfl
      have HT6 := Lib.hid (HT5.out.lineG (by omega) hg6 hk6 ho6)
      have HK6 := Lib.hid (HT5.out.outG rfl HK5.out hk6)
      have hb6 := HK6.out.size
      have HA6 := Lib.hid ((Kept.refl w6 NoB).alloc (.cells #[.string (strB []), .slice A6 0 c6, .slice none 0 0] 30))
      clear hg6 hk6 ho6 hor6 hr6 hR6
      go_wp2_with fail
      refine (line_at _ _ 3 _ _ s2 false _ _ rfl ST3.out (HT6.out.kept0 HA6.out).mo (by omega) (hm.kept0 ((HK1.out.trans' HK6.out).trans' HA6.out)) (by decide)).mono ?_
      rintro en w7 ⟨vr7, v7, rfl, hr7, hg7, hk7, ho7, _⟩
      simp only [rpV, Option.getD_none, Option.isSome_none] at hr7 ⊢
      obtain ⟨A7, c7, rfl, hc7, hR7⟩ := hr7.readsO (n := 0) rfl
      have hsA : (w6.alloc (.cells #[.string (strB []), .slice A6 0 c6, .slice none 0 0] 30)).heap.size = w6.heap.size + 1 := World.size_alloc _ _
      have HT7 := Lib.hid ((HT6.out.kept0 HA6.out).lineO (by omega) hg7 hk7 ho7)
      have hk67 : Kept w6 w7 (fun k => k = w2.heap.size ∨ OB u1' k) := (HA6.out.of_no (S := fun k => k = w2.heap.size ∨ OB u1' k)).trans hk7 fun b hb => .inl hb
      have HK7 := Lib.hid (HT6.out.outO rfl HK6.out hk67)
      have HB1 := Lib.hid (busy_calls _ w1.heap.size 1 none _ (HT7.out.kept0 ((Kept.refl w7 NoB).alloc (.cells #[.string (strB []), .slice A7 0 c7, .slice none 0 0] 30))).mg)
      have HB3 := Lib.hid (busy_calls _ w2.heap.size 3 _ _ (HT7.out.kept0 ((Kept.refl w7 NoB).alloc (.cells #[.string (strB []), .slice A7 0 c7, .slice none 0 0] 30))).mo)
      clear hr7 hg7 hk7 ho7 hR7 hk67
      go_wp2_with fail
      refine HB1.out.mono ?_
      rintro en wx ⟨rfl, rfl⟩
      go_wp2_with fail
      refine HB3.out.mono ?_
      rintro en wx ⟨rfl, rfl⟩
      go_wp2_with fail
      go_ret
      exact ⟨rfl, (HK1.out.trans' HK7.out).alloc _⟩
  · have tl : ¬ (200 : Int) < (t0.length : Int) := by omega
    have heq2 := heq.symm
    clear heq
    subst heq2
    clear hshort
    go_wp2_with fail
    refine (HDX.out _).mono ?_
    rintro en wa ⟨rfl, rfl⟩
    go_wp2_with fail
    refine (HDY.out _).mono ?_
    rintro en wa ⟨rfl, rfl⟩
    go_wp2_with fail
    refine (line_at _ _ 1 none _ s1 false _ _ rfl S1.out HT3.out.mg (by omega) (hm.kept0 HK3.out) (by decide)).mono ?_
    rintro en w4 ⟨vr, v1, rfl, _, hg4, hk4, ho4, _⟩
    have HT4 := Lib.hid (HT3.out.lineG (by omega) hg4 hk4 ho4)
    have HK4 := Lib.hid (HT3.out.outG rfl (Kept.refl w1 NoB |>.trans' (HK2.out.trans' HK32.out)) hk4)
    clear hg4 hk4 ho4
    go_wp2_with fail
    refine (line_at _ _ 3 none _ s1 false _ _ rfl S3.out HT4.out.mo (by omega) (hm.kept0 (HK1.out.trans' HK4.out)) (by decide)).mono ?_
    rintro en w5 ⟨ur, u1', rfl, _, hg5, hk5, ho5, _⟩
    have hb4 := HK4.out.size
    have HT5 := Lib.hid (HT4.out.lineO (by omega) hg5 hk5 ho5)
    have HK5 := Lib.hid (HT4.out.outO rfl HK4.out hk5)
    clear hg5 hk5 ho5
    by_cases hab : a = b
    · have st1 := T1.out hab
      have st3 := T3.out hab
      have ST1 := Lib.hid st1
      have ST3 := Lib.hid st3
      have tab : ((a : Int) == (b : Int)) = true := by rw [hab]; simp
      clear hab st1 st3
      go_wp2_with fail
      refine (line_at _ _ 1 _ _ s2 false _ _ rfl ST1.out HT5.out.mg (by omega) (hm.kept0 (HK1.out.trans' HK5.out)) (by decide)).mono ?_
      rintro en w6 ⟨vr6, v6, rfl, hr6, hg6, hk6, ho6, hor6⟩
      have hb5 := HK5.out.size
      simp only [rpV, Option.getD_some, Option.isSome_some] at hr6 ⊢
      obtain ⟨A6, c6, rfl, hc6, hR6⟩ := hr6.readsO (n := 2) rfl
      have HT6 := Lib.hid (HT5.out.lineG (by omega) hg6 hk6 ho6)
      have HK6 := Lib.hid (HT5.out.outG rfl HK5.out hk6)
      have hb6 := HK6.out.size
      have h56 := hk6.size
      have hXB := Lib.hid (Blk.new w6 30 #[.string (strB x), .slice A6 2 c6, .slice none 0 0])
      have HA6 := Lib.hid ((Kept.refl w6 NoB).alloc (.cells #[.string (strB x), .slice A6 2 c6, .slice none 0 0] 30))
      have HR6 := Lib.hid hR6
      have HRO6 := Lib.hid hr6
      have hO6 : ∀ k, OB (Value.slice A6 2 c6) k → ¬ OB u1' k := fun k hk hu => by
        rcases hor6 k hk with h | h
        · exact HT5.out.hvu k h hu
        · exact absurd (HT5.out.mo.obl k hu) (by omega)
      have HO6 := Lib.hid hO6
      clear hg6 hk6 ho6 hor6 hr6 hR6 hO6
      go_wp2_with fail
      refine (line_at _ _ 3 _ _ s2 false _ _ rfl ST3.out (HT6.out.kept0 HA6.out).mo (by omega) (hm.kept0 ((HK1.out.trans' HK6.out).trans' HA6.out)) (by decide)).mono ?_
      rintro en w7 ⟨vr7, v7, rfl, hr7, hg7, hk7, ho7, _⟩
      simp only [rpV, Option.getD_some, Option.isSome_some] at hr7 ⊢
      obtain ⟨A7, c7, rfl, hc7, hR7⟩ := hr7.readsO (n := 2) rfl
      have hsA : (w6.alloc (.cells #[.string (strB x), .slice A6 2 c6, .slice none 0 0] 30)).heap.size = w6.heap.size + 1 := World.size_alloc _ _
      have hk67 : Kept w6 w7 (fun k => k = w2.heap.size ∨ OB u1' k) := (HA6.out.of_no (S := fun k => k = w2.heap.size ∨ OB u1' k)).trans hk7 fun b hb => .inl hb
      have hnX : ¬ (w6.heap.size = w2.heap.size ∨ OB u1' w6.heap.size) := by
        have hlo := HT6.out.mo.lt
        rintro (e | e)
        · omega
        · exact absurd (HT6.out.mo.obl _ e) (Nat.lt_irrefl _)
      have hX7 := hXB.out.kept hk7 hnX
      obtain ⟨ocs, hocs⟩ := HT6.out.mo.blk
      have hR67 := HR6.out.kept hk67 (fun b _ hb e => by
        rcases e with rfl | e
        · exact ob_far hocs HRO6.out hb
        · exact HO6.out b hb e)
      obtain ⟨a6, hA6, _, ha6l, hc6'⟩ := hR67.2 (by decide)
      obtain ⟨a7, hA7, _, ha7l, hc7'⟩ := hR7.2 (by decide)
      have q6 : w7.cell? ⟨a6.block, a6.off + 1, none⟩ = some (.string (strB t)) := hc6' 1 _ rfl
      have q7 : w7.cell? ⟨a7.block, a7.off + 1, none⟩ = some (.string (strB t)) := hc7' 1 _ rfl
      subst hA6 hA7
      obtain ⟨x0, x1, x2, _, _, _⟩ := hX7.cells3
      have hxl7 := hX7.lt
      have HK7 := Lib.hid (HT6.out.outO rfl HK6.out hk67)
      clear hr7 hg7 hk7 ho7 hR7 hk67 hnX hX7 hR67 hc6' hc7' hocs
      go_wp2_with fail
      go_ret
      exact ⟨rfl, (HK1.out.trans' HK7.out).alloc _⟩
    · have st1 := O1.out hab
      have st3 := O3.out hab
      have ST1 := Lib.hid st1
      have ST3 := Lib.hid st3
      have tab : ((a : Int) == (b : Int)) = false := by rw [beq_eq_false_iff_ne]; omega
      clear hab st1 st3
      go_wp2_with fail
      refine (line_at _ _ 1 _ _ s2 false _ _ rfl ST1.out HT5.out.mg (by omega) (hm.kept0 (HK1.out.trans' HK5.out)) (by decide)).mono ?_
      rintro en w6 ⟨vr6, v6, rfl, hr6, hg6, hk6, ho6, hor6⟩
      have hb5 := HK5.out.size
      simp only [rpV, Option.getD_none, Option.isSome_none] at hr6 ⊢
      obtain ⟨A6, c6, rfl, hc6, hR6⟩ := hr6.readsO (n := 0) rfl
      have HT6 := Lib.hid (HT5.out.lineG (by omega) hg6 hk6 ho6)
      have HK6 := Lib.hid (HT5.out.outG rfl HK5.out hk6)
      have hb6 := HK6.out.size
      have HA6 := Lib.hid ((Kept.refl w6 NoB).alloc (.cells #[.string (strB []), .slice A6 0 c6, .slice none 0 0] 30))
      clear hg6 hk6 ho6 hor6 hr6 hR6
      go_wp2_with fail
      refine (line_at _ _ 3 _ _ s2 false _ _ rfl ST3.out (HT6.out.kept0 HA6.out).mo (by omega) (hm.kept0 ((HK1.out.trans' HK6.out).trans' HA6.out)) (by decide)).mono ?_
      rintro en w7 ⟨vr7, v7, rfl, hr7, hg7, hk7, ho7, _⟩
      simp only [rpV, Option.getD_none, Option.isSome_none] at hr7 ⊢
      obtain ⟨A7, c7, rfl, hc7, hR7⟩ := hr7.readsO (n := 0) rfl
      have hsA : (w6.alloc (.cells #[.string (strB []), .slice A6 0 c6, .slice none 0 0] 30)).heap.size = w6.heap.size + 1 := World.size_alloc _ _
      have HT7 := Lib.hid ((HT6.out.kept0 HA6.out).lineO (by omega) hg7 hk7 ho7)
      have hk67 : Kept w6 w7 (fun k => k = w2.heap.size ∨ OB u1' k) := (HA6.out.of_no (S := fun k => k = w2.heap.size ∨ OB u1' k)).trans hk7 fun b hb => .inl hb
      have HK7 := Lib.hid (HT6.out.outO rfl HK6.out hk67)
      have HB1 := Lib.hid (busy_calls _ w1.heap.size 1 none _ (HT7.out.kept0 ((Kept.refl w7 NoB).alloc (.cells #[.string (strB []), .slice A7 0 c7, .slice none 0 0] 30))).mg)
      have HB3 := Lib.hid (busy_calls _ w2.heap.size 3 _ _ (HT7.out.kept0 ((Kept.refl w7 NoB).alloc (.cells #[.string (strB []), .slice A7 0 c7, .slice none 0 0] 30))).mo)
      clear hr7 hg7 hk7 ho7 hR7 hk67
      go_wp2_with fail
      refine HB1.out.mono ?_
      rintro en wx ⟨rfl, rfl⟩
      go_wp2_with fail
      refine HB3.out.mono ?_
      rintro en wx ⟨rfl, rfl⟩
      go_wp2_with fail
      go_ret
      exact ⟨rfl, (HK1.out.trans' HK7.out).alloc _⟩
theorem replyCodes_walk (W : World) (a0 a1 : Int) (a2 : ByteArray) (w0 : (Lit.int .u8 a0).wf = true) (w1 : (Lit.int .u8 a1).wf = true) (w2 : a2.size ≤ 140737488351232) (hsh : W.ShapedOpen Tryd.prog) :
    Calls Tryd.prog 7 #[.int .u8 a0, .int .u8 a1, .string a2] W fun en w' => en = .returned (.bool true) ∧ Below W.heap.size W w' := by
  have hu : ∀ a : Int, (Lit.int .u8 a).wf = true → ∃ x : Nat, a = (x : Int) ∧ x < 256 := fun a h => by
    simp only [Lit.wf, Bool.and_eq_true, decide_eq_true_eq] at h
    have e0 : IntKind.u8.min = 0 := rfl
    have e1 : IntKind.u8.max = 255 := rfl
    exact ⟨a.toNat, by omega, by omega⟩
  obtain ⟨x, rfl, hx⟩ := hu a0 w0
  obtain ⟨y, rfl, hy⟩ := hu a1 w1
  obtain ⟨t, rfl, ht⟩ := strB_of a2
  exact (codes_law W x y t hx hy (by omega) (MaxI.of_shape hsh)).mono fun _ _ ⟨he, hk⟩ => ⟨he, hk.below⟩
end Go.Proofs.YtamemddgajmimaaDoor
