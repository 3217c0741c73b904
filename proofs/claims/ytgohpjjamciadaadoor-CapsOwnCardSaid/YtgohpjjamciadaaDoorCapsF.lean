/- caps: few: a reply cut to size. -/
import Derived.Test.YtgohpjjamciadaaDoorCapsB
import Derived.Deep.RegionLaw
set_option linter.unusedVariables false
set_option linter.unusedSimpArgs false
namespace Go.Proofs.YtgohpjjamciadaaDoor
open Go.RowKit Go.Shelf

theorem run_app1S {W : World} (dt : TypeId) (S : Nat → Prop) (v : Value) (xs : List Value) (x : List UInt8) (HO : Row W 9 S v xs) (hS : ∀ k, W.heap.size ≤ k → S k) (hl : xs.length ≤ 1099511628) :
    ∃ v1 w1, (Builtin.append_ #[22, 22] dt #[v, .slice (some ⟨W.heap.size, 0, none⟩) 1 1]).run Tryd.prog (W.alloc (.cells #[.string (strB x)] 9)) = .ok v1 w1 ∧ Row w1 9 S v1 (xs ++ [.string (strB x)]) ∧ Kept W w1 (OB v) ∧ (∀ k, OB v1 k → OB v k ∨ W.heap.size ≤ k) := by
  obtain ⟨i0, hi, hzz⟩ := Option.map_eq_some_iff.1 info_str
  simp only [Prod.mk.injEq] at hzz
  obtain ⟨hz0, hz1, hz2⟩ := hzz
  obtain ⟨v1, w1, hr, hown, hg, _, hat⟩ := run_append_own_at (P := Tryd.prog) (W.alloc (.cells #[.string (strB x)] 9)) 0 22 dt 9 i0 (.string ByteArray.empty) 1 16 Tryd.underlying22 hi hz0 hz1 hz2 rfl (by omega) v xs.length xs (HO.1.alloc _) ⟨W.heap.size, 0, none⟩ 1 1 [.string (strB x)] rfl
    (World.news_of_block (cs := #[.string (strB x)]) (t := 9) (fr := (0, 0)) (heap_alloc_new W _)) (by simp [Value.oneCell']) (by simp only [maxLen]; omega) (by omega) (by simp)
  have hat' : ∀ k, OB v1 k → OB v k ∨ W.heap.size ≤ k := by
    intro k hk
    unfold OB at hk ⊢
    rcases hat with hat | hat
    · exact .inl (hat ▸ hk)
    · rw [hat] at hk
      injection hk with hk
      refine .inr ?_
      rw [← hk]
      simp
  exact ⟨v1, w1, hr, ⟨by simpa using hown, fun k hk => (hat' k hk).elim (HO.2 k) (hS k)⟩, ((Kept.refl W (OB v)).alloc _).grown hg fun k hk => .inl hk, hat'⟩
theorem step_app1S {ops : Array Oper} {o : Oper} {a : Act} {K : Act → World → Prop} {Q : Exit → Act → World → Prop} {E : Prop} {W : World} (hg : o.guard = none) (s x : Operand)
    (ho : o.op = .call { callee := .builtin .append, args := #[s, x], argTypes := #[22, 22] })
    (S : Nat → Prop) (v : Value) (xs : List Value) (y : List UInt8) (hs : a.eval s = v) (hx : a.eval x = .slice (some ⟨W.heap.size, 0, none⟩) 1 1)
    (HO : Row W 9 S v xs) (hS : ∀ k, W.heap.size ≤ k → S k) (hl : xs.length ≤ 1099511628)
    (h : ∀ v1 w1, Row w1 9 S v1 (xs ++ [.string (strB y)]) → Kept W w1 (OB v) → (∀ k, OB v1 k → OB v k ∨ W.heap.size ≤ k) → K (a.put o.dst v1) w1) :
    if Region.wanted o (yielded ops a.tmps) = true then Oper.wp Tryd.prog o a (W.alloc (.cells #[.string (strB y)] 9)) K Q else E := by
  have hw : Region.wanted o (yielded ops a.tmps) = true := by simp [Region.wanted, hg]
  rw [if_pos hw]
  obtain ⟨v1, w1, hr, h1, h2, h3⟩ := run_app1S o.type S v xs y HO hS hl
  unfold Oper.wp execOp
  simp only [ho, resolve, invoke, builtin, Sem.run_bind, Sem.run_pure, Result.andThen_ok, List.map_toArray, List.map_cons, List.map_nil, hs, hx, hr]
  exact h v1 w1 h1 h2 h3

def fewL (ls : List (List UInt8)) : List (List UInt8) := (ls.take 24).map fun l => l.take 200
theorem few_take {ls : List (List UInt8)} {i : Nat} (h : i < ls.length) : (ls.take (i + 1)).map (fun l => l.take 200) = (ls.take i).map (fun l => l.take 200) ++ [ls[i].take 200] := by
  rw [List.take_succ_eq_append_getElem h, List.map_append]
  rfl

def FewS (w0 : World) (code : Value) (A B : Option Addr) (n c m d : Nat) (ls : List (List UInt8)) (gk : Nat) (v4 : Value) (wr : World) : Prop :=
  ∃ (i : Nat) (v : Value), i ≤ n ∧ i ≤ 24 ∧ gk = 24 - i ∧ v4 = .int .i64 (i : Int) ∧ Blk wr w0.heap.size 25 #[code, .slice A n c, .slice B m d] ∧
    Blk wr (w0.heap.size + 1) 25 #[.string ByteArray.empty, .slice none 0 0, .slice none 0 0] ∧
    Blk wr (w0.heap.size + 2) 25 #[code, v, .slice B m d] ∧ Row wr 9 (fun b => w0.heap.size ≤ b) v (strs ((ls.take i).map fun l => l.take 200)) ∧ Kept w0 wr NoB

set_option maxHeartbeats 4000000 in
set_option maxRecDepth 100000 in
theorem few_calls (w : World) (code : ByteArray) (S T : Nat → Prop) (A B : Option Addr) (n c m d : Nat) (ls : List (List UInt8)) (body : List UInt8)
    (hA : Reads w S A n (strs ls)) (hnc : n ≤ c) (hB : Reads w T B m (b8s body)) (hmd : m ≤ d) (hls : ∀ l ∈ ls, l.length ≤ 9223372036854775807) :
    Calls Tryd.prog 9 #[.agg #[.string code, .slice A n c, .slice B m d]] w fun en w' =>
      ∃ C k e D j f, en = .returned (.agg #[.string code, .slice C k e, .slice D j f]) ∧ k ≤ e ∧ j ≤ f ∧ Reads w' (fun b => w.heap.size ≤ b) C k (strs (fewL ls)) ∧ Reads w' T D j (b8s (body.take 1000)) ∧ Kept w w' NoB := by
  have hl : ls.length = n := by have := hA.1; rwa [strs_length] at this
  have HA := Lib.hid hA
  have HB := Lib.hid hB
  have HLS := Lib.hid hls
  clear hA hB hls
  go_enter Tryd.func9, Tryd.ntmps9
  go_wp2_with fail
  go_loopg [4] 24 (fun gk v4 wr => FewS w (.string code) A B n c m d ls gk v4 wr)
  case atStart =>
    refine ⟨0, _, Nat.zero_le _, Nat.zero_le _, rfl, rfl, ?_, ?_, ?_, Row.nil _ _ _, (((Kept.refl _ _).alloc _).alloc _).alloc _⟩
    · exact ((Blk.new w _ _).alloc _).alloc _
    · have h := Blk.new (w.alloc (.cells #[.string code, .slice A n c, .slice B m d] 25)) 25 #[.string ByteArray.empty, .slice none 0 0, .slice none 0 0]
      rw [World.size_alloc] at h
      exact h.alloc _
    · have h := Blk.new ((w.alloc (.cells #[.string code, .slice A n c, .slice B m d] 25)).alloc (.cells #[.string ByteArray.empty, .slice none 0 0, .slice none 0 0] 25)) 25 #[.string code, .slice none 0 0, .slice B m d]
      rw [World.size_alloc, World.size_alloc] at h
      exact h
  case round =>
    obtain ⟨i, v, hi, hi24, hgk, rfl, hb0, hb1, hb2, hrow, hkr⟩ := hrel
    have HG := Lib.hid hgk
    have HKR := Lib.hid hkr
    have HB0 := Lib.hid hb0
    have HB1 := Lib.hid hb1
    have HB2 := Lib.hid hb2
    have HROW := Lib.hid hrow
    have HAr := Lib.hid (HA.out.kept0 hkr)
    have c01 : wr.cell? ⟨w.heap.size, 1, none⟩ = some (.slice A n c) := by rw [hb0.cell]; rfl
    have c21 : wr.cell? ⟨w.heap.size + 2, 1, none⟩ = some v := by rw [hb2.cell]; rfl
    have hsz : w.heap.size + 2 < wr.heap.size := hb2.lt
    clear hgk hkr hb0 hb1 hb2 hrow
    by_cases hlt : i < n ∧ i < 24
    · obtain ⟨hlt, h24⟩ := hlt
      have t24 : (i : Int) < 24 := by omega
      have tn : (i : Int) < (n : Int) := by omega
      have hli : i < ls.length := by omega
      obtain ⟨ad, u, hA1, hu, hcell⟩ := HAr.out.at_ hlt
      subst hA1
      rw [strs_at ls i hli] at hu
      injection hu with hu
      subst hu
      have hft := few_take hli
      have hxl := HLS.out ls[i] (List.getElem_mem hli)
      obtain ⟨x, hx⟩ : ∃ x, ls[i] = x := ⟨_, rfl⟩
      rw [hx] at hcell hft hxl
      obtain ⟨q, hq⟩ : ∃ q, (ls.take i).map (fun l => l.take 200) = q := ⟨_, rfl⟩
      have hql : q.length ≤ 24 := by rw [← hq, List.length_map, List.length_take]; omega
      rw [hq] at HROW hft
      obtain ⟨VA, vc, hv, _, _⟩ := HROW.out.shape
      rw [strs_length] at hv
      subst hv
      have HFT := Lib.hid hft
      have hlen : (strs q).length ≤ 1099511628 := by rw [strs_length]; omega
      clear hft hx hq
      go_wp2_with fail
      go_region_law (first
        | (refine step_app1S (W := wr.drew) rfl (.tmp 22) (.tmp 29) rfl (fun b => w.heap.size ≤ b) _ _ (x.take 200) rfl rfl HROW.out.drew (fun k hk => Nat.le_trans HKR.out.size hk) hlen ?_; intro v9 w9 hrow9 hkp9 hob9; have hb9 := HB2.out.drew.kept hkp9 (HROW.out.ne_blk HB2.out (by decide)); have c9 : w9.cell? ⟨w.heap.size + 2, 1, none⟩ = some (.slice VA q.length vc) := (by rw [hb9.cell]; rfl); have f9 := hb9.frozen 1; obtain ⟨V9, l9, d9, hv9⟩ := hrow9.slice; subst hv9)
        | (go_simp; refine (short_calls _ x hxl).mono ?_; rintro en wq ⟨rfl, rfl⟩))
      all_goals
        go_wp2_with fail
        go_roundg (24 - (i + 1))
        case measure => have := HG.out; omega
        case rel =>
          refine ⟨i + 1, .slice V9 l9 d9, by omega, by omega, rfl, by go_num, ?_, ?_, ?_, ?_, ?_⟩
          · exact (HB0.out.drew.kept hkp9 (HROW.out.ne_blk HB0.out (by decide))).far (by show w.heap.size ≠ w.heap.size + 2; omega) _
          · exact (HB1.out.drew.kept hkp9 (HROW.out.ne_blk HB1.out (by decide))).far (by show w.heap.size + 1 ≠ w.heap.size + 2; omega) _
          · exact hb9.set_ 1 _
          · rw [HFT.out, strs_append]
            exact hrow9.far (hrow9.ne_blk hb9 (by decide)) _
          · exact (HKR.out.drew.trans hkp9 fun b ho => .inr (HROW.out.2 b ho)).setCell (.inr (by show w.heap.size ≤ w.heap.size + 2; omega)) _
    · have c22 : wr.cell? ⟨w.heap.size + 2, 2, none⟩ = some (.slice B m d) := by rw [HB2.out.cell]; rfl
      have c20 : wr.cell? ⟨w.heap.size + 2, 0, none⟩ = some (.string code) := by rw [HB2.out.cell]; rfl
      have c10 : wr.cell? ⟨w.heap.size + 1, 0, none⟩ = some (.string ByteArray.empty) := by rw [HB1.out.cell]; rfl
      have c11 : wr.cell? ⟨w.heap.size + 1, 1, none⟩ = some (.slice none 0 0) := by rw [HB1.out.cell]; rfl
      have c12 : wr.cell? ⟨w.heap.size + 1, 2, none⟩ = some (.slice none 0 0) := by rw [HB1.out.cell]; rfl
      have f22 := HB2.out.frozen 2
      have f10 := HB1.out.frozen 0
      have f11 := HB1.out.frozen 1
      have f12 := HB1.out.frozen 2
      have hfew : fewL ls = (ls.take i).map fun l => l.take 200 := by
        unfold fewL
        congr 1
        rcases Nat.lt_or_ge i 24 with h | h
        · rw [List.take_of_length_le (by omega), List.take_of_length_le (by omega)]
        · rw [show i = 24 by omega]
      obtain ⟨VA, vc, hv, hvc, hvr⟩ := HROW.out.reads
      rw [← hfew] at hv hvc hvr
      rw [strs_length] at hv hvc hvr
      subst hv
      have HVR := Lib.hid hvr
      have HBb := Lib.hid (HB.out.kept0 HKR.out)
      have hml : body.length = m := by have := HB.out.1; rwa [b8s_length] at this
      clear hvr
      have hcond : (¬ i < n) ∨ (i < n ∧ ¬ i < 24) := by omega
      have hg1 : w.heap.size ≤ w.heap.size + 1 := by omega
      have hg2 : w.heap.size ≤ w.heap.size + 2 := by omega
      have d12 : w.heap.size + 1 ≠ w.heap.size + 2 := by omega
      have hrb := HB.out
      by_cases h1000 : 1000 < m
      · have tm : (1000 : Int) < (m : Int) := by omega
        have hbf := ((((HB1.out.far (p := ⟨w.heap.size + 2, 2, none⟩) d12 (.slice B 1000 d)).set_ 0 (.string code)).set_ 1 (.slice VA (fewL ls).length vc)).set_ 2 (.slice B 1000 d))
        have hkf := ((((HKR.out.setCell (p := ⟨w.heap.size + 2, 2, none⟩) (.inr hg2) (.slice B 1000 d)).setCell (p := ⟨w.heap.size + 1, 0, none⟩) (.inr hg1) (.string code)).setCell (p := ⟨w.heap.size + 1, 1, none⟩) (.inr hg1) (.slice VA (fewL ls).length vc)).setCell (p := ⟨w.heap.size + 1, 2, none⟩) (.inr hg1) (.slice B 1000 d))
        have hrf := ((((HROW.out.far (p := ⟨w.heap.size + 2, 2, none⟩) (HROW.out.ne_blk HB2.out (by decide)) (.slice B 1000 d)).far (p := ⟨w.heap.size + 1, 0, none⟩) (HROW.out.ne_blk HB1.out (by decide)) (.string code)).far (p := ⟨w.heap.size + 1, 1, none⟩) (HROW.out.ne_blk HB1.out (by decide)) (.slice VA (fewL ls).length vc)).far (p := ⟨w.heap.size + 1, 2, none⟩) (HROW.out.ne_blk HB1.out (by decide)) (.slice B 1000 d))
        rw [← hfew] at hrf
        have hbt := (hrb.kept0 hkf).take (k := 1000) (by omega)
        rw [b8s_take] at hbt
        have hrr := hrf.reads'
        rw [strs_length] at hrr
        have HBF := Lib.hid hbf
        have HKF := Lib.hid hkf
        have HBT := Lib.hid hbt
        have HRR := Lib.hid hrr
        clear hbf hkf hbt hrr hrf hrb hfew
        rcases hcond with hc1 | ⟨hc1, hc2⟩
        all_goals
          go_wp2_with fail
          refine bodyPost_ret (results_cell_row rfl _ _ (w.heap.size + 1) 25 _ (0, 0) _ rfl HBF.out Tryd.underlying25 rfl (by kernel_rfl)) rfl ?_
          exact ⟨VA, (fewL ls).length, vc, B, 1000, d, rfl, hvc, by omega, HRR.out, HBT.out, HKF.out⟩
      · have tm : ¬ (1000 : Int) < (m : Int) := by omega
        have hbf := ((HB1.out.set_ 0 (.string code)).set_ 1 (.slice VA (fewL ls).length vc)).set_ 2 (.slice B m d)
        have hkf := (((HKR.out.setCell (p := ⟨w.heap.size + 1, 0, none⟩) (.inr hg1) (.string code)).setCell (p := ⟨w.heap.size + 1, 1, none⟩) (.inr hg1) (.slice VA (fewL ls).length vc)).setCell (p := ⟨w.heap.size + 1, 2, none⟩) (.inr hg1) (.slice B m d))
        have hrf := (((HROW.out.far (p := ⟨w.heap.size + 1, 0, none⟩) (HROW.out.ne_blk HB1.out (by decide)) (.string code)).far (p := ⟨w.heap.size + 1, 1, none⟩) (HROW.out.ne_blk HB1.out (by decide)) (.slice VA (fewL ls).length vc)).far (p := ⟨w.heap.size + 1, 2, none⟩) (HROW.out.ne_blk HB1.out (by decide)) (.slice B m d))
        rw [← hfew] at hrf
        have hbt := hrb.kept0 hkf
        have hb1000 : body.take 1000 = body := List.take_of_length_le (by omega)
        have hrr := hrf.reads'
        rw [strs_length] at hrr
        have HBF := Lib.hid hbf
        have HKF := Lib.hid hkf
        have HBT := Lib.hid hbt
        have HRR := Lib.hid hrr
        have HB10 := Lib.hid hb1000
        clear hbf hkf hbt hrr hrf hrb hfew hb1000
        rcases hcond with hc1 | ⟨hc1, hc2⟩
        all_goals
          go_wp2_with fail
          refine bodyPost_ret (results_cell_row rfl _ _ (w.heap.size + 1) 25 _ (0, 0) _ rfl HBF.out Tryd.underlying25 rfl (by kernel_rfl)) rfl ?_
          exact ⟨VA, (fewL ls).length, vc, B, m, d, rfl, hvc, hmd, HRR.out, by rw [HB10.out]; exact HBT.out, HKF.out⟩
end Go.Proofs.YtgohpjjamciadaaDoor
