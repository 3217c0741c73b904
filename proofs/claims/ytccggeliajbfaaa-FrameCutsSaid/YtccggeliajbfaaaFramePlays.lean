/- The walk of FramePlays. -/
import Derived.Test.YtccggeliajbfaaaLines
import Derived.Test.YtccggeliajbfaaaRowW
set_option linter.unusedVariables false
set_option linter.unusedSimpArgs false
namespace Go.Proofs.Ytccggeliajbfaaa
open Go.RowKit

theorem putF_append (M : Int) : ∀ (a b l : List UInt8) (cr : Bool) (e : Int),
    putF M (a ++ b) l cr e = ((putF M a l cr e).1 ++ (putF M b (putF M a l cr e).2.1 (putF M a l cr e).2.2.1 (putF M a l cr e).2.2.2).1, (putF M b (putF M a l cr e).2.1 (putF M a l cr e).2.2.1 (putF M a l cr e).2.2.2).2)
  | [], b, l, cr, e => by
    by_cases h : e = 0
    · subst h; simp [putF]
    · simp [putF, h, putF_err]
  | c :: a, b, l, cr, e => by
    have ih := putF_append M a b
    by_cases h : e = 0
    · subst h
      simp only [List.cons_append]
      cases cr
      · by_cases h1 : c = 10
        · rw [putF_lf _ _ h1, putF_lf _ _ h1]
          simp [putF_err]
        · by_cases h2 : c = 13
          · rw [putF_13 _ _ h2, putF_13 _ _ h2, ih]
          · by_cases h3 : M ≤ l.length
            · rw [putF_long _ _ h1 h2 h3, putF_long _ _ h1 h2 h3]
              simp [putF_err]
            · rw [putF_next _ _ h1 h2 h3, putF_next _ _ h1 h2 h3, ih]
      · by_cases h1 : c = 10
        · rw [putF_emit _ _ h1, putF_emit _ _ h1, ih]
          simp
        · rw [putF_cr _ _ h1, putF_cr _ _ h1]
          simp [putF_err]
    · simp [putF_err, h]
theorem putF_len (M : Int) : ∀ (a l : List UInt8) (cr : Bool) (e : Int), (putF M a l cr e).2.1.length ≤ l.length + a.length ∧ (putF M a l cr e).1.length ≤ a.length
  | [], l, cr, e => by unfold putF; split <;> simp
  | c :: a, l, cr, e => by
    have h1 := putF_len M a [] false 0
    have h2 := putF_len M a l true 0
    have h3 := putF_len M a (l ++ [c]) false 0
    simp at h1 h3
    by_cases h : e = 0
    · subst h
      cases cr
      · by_cases g1 : c = 10
        · rw [putF_lf _ _ g1]
          simp
        · by_cases g2 : c = 13
          · rw [putF_13 _ _ g2]
            simp
            omega
          · by_cases g3 : M ≤ l.length
            · rw [putF_long _ _ g1 g2 g3]
              simp
            · rw [putF_next _ _ g1 g2 g3]
              simp
              omega
      · by_cases g1 : c = 10
        · rw [putF_emit _ _ g1]
          simp
          omega
        · rw [putF_cr _ _ g1]
          simp
    · rw [putF_err _ _ _ h]
      simp

def allOf (ls : List (List UInt8)) (k : Nat) : List UInt8 := ((ls.take k).map fun l => l.take 200).flatten
theorem allOf_succ (ls : List (List UInt8)) (k : Nat) (h : k < ls.length) : allOf ls (k + 1) = allOf ls k ++ ls[k].take 200 := by
  unfold allOf
  rw [List.take_succ_eq_append_getElem h, List.map_append, List.flatten_append]
  simp
theorem allOf_len (ls : List (List UInt8)) : ∀ k, (allOf ls k).length ≤ k * 200 := by
  intro k
  induction k with
  | zero => simp [allOf]
  | succ k ih =>
    rcases Nat.lt_or_ge k ls.length with h | h
    · rw [allOf_succ ls k h, List.length_append, List.length_take]
      omega
    · have : allOf ls (k + 1) = allOf ls k := by unfold allOf; rw [List.take_of_length_le (by omega), List.take_of_length_le h]
      rw [this]
      omega

def PlaysR (w0 : World) (M : Int) (ls : List (List UInt8)) (g n gk : Nat) (va vg vi : Value) (wr : World) : Prop :=
  ∃ (k : Nat) (F : Nat → Prop), k ≤ n ∧ k ≤ 12 ∧ gk = 12 - k ∧ vi = .int .i64 (k : Int) ∧
    Fr wr F g (putF M (allOf ls k) [] false 0).2.1 (putF M (allOf ls k) [] false 0).2.2.1 M (putF M (allOf ls k) [] false 0).2.2.2 ∧
    Row wr 9 (fun b => w0.heap.size ≤ b) vg (strs (putF M (allOf ls k) [] false 0).1) ∧
    Row wr 5 (fun b => w0.heap.size ≤ b) va (b8s (allOf ls k)) ∧ (∀ b, F b → w0.heap.size ≤ b ∧ ¬ OB va b ∧ ¬ OB vg b) ∧ Kept w0 wr NoB

theorem lines_any {w0 : World} {S : Nat → Prop} {A : Option Addr} {n c : Nat} {bs : List UInt8} {most : Int} (hr : Reads w0 S A n (b8s bs)) (hc : n ≤ c) (hn : n ≤ 1099511627776) {ls : List (List UInt8)} {l : List UInt8} {cr : Bool} {e : Int} (hp : putF (max most 0) bs [] false 0 = (ls, l, cr, e)) :
    Calls Try.prog 14 #[.slice A n c, .int .i64 most] w0 fun en w' => ∃ v, en = .returned (.tuple #[v, .int .i64 e, .int .i64 (restF l cr)]) ∧ Row w' 9 (fun k => w0.heap.size ≤ k) v (strs ls) ∧ Kept w0 w' NoB := by
  have h := lines_calls w0 S A n c bs most hr hc hn
  rw [hp] at h
  exact h

set_option maxHeartbeats 4000000 in
set_option maxRecDepth 100000 in
theorem plays_calls (w : World) (most : Int) (A : Option Addr) (n c : Nat) (ls : List (List UInt8)) (hrows : RowsIn w (fun k => k < w.heap.size) A n ls) :
    Calls Try.prog 4 #[.int .i64 most, .slice A n c] w fun en w' => en = .returned (.bool true) ∧ Kept w w' NoB := by
  obtain ⟨M, hM⟩ : ∃ M, max most 0 = M := ⟨_, rfl⟩
  have HM := Lib.hid hM
  have HRW := Lib.hid hrows
  clear hM hrows
  go_enter Try.func4, Try.ntmps4
  go_wp2_with fail
  refine (shown_calls _).mono ?_
  rintro en w1 ⟨rfl, hk1⟩
  go_wp2_with fail
  refine (new_calls _ _).mono ?_
  rintro en w2 ⟨g, F, rfl, hf, hF, hk2⟩
  rw [HM.out] at hf
  go_wp2_with fail
  go_loopg [7, 8, 9] 12 (fun gk v7 v8 v9 wr => PlaysR w M ls g n gk v7 v8 v9 wr)
  case atStart =>
    have hk12 := hk1.trans' hk2
    have hsz := hk12.size
    have hsz2 : w.heap.size ≤ (w2.alloc (.cells #[] 5)).heap.size := by rw [World.size_alloc]; omega
    have h0 : putF M (allOf ls 0) [] false 0 = ([], [], false, 0) := by simp [allOf, putF]
    refine ⟨0, F, Nat.zero_le _, Nat.zero_le _, rfl, rfl, by rw [h0]; exact (hf.alloc _).alloc _, ?_, ((Row.made0 _ _ _ hsz).alloc _), ?_, (hk12.alloc _).alloc _⟩
    · rw [h0]
      have := Row.made0 (w2.alloc (.cells #[] 5)) 9 (fun b => w.heap.size ≤ b) hsz2
      rw [World.size_alloc] at this
      exact this
    · intro b h
      have h1 := hf.2 b h
      have h2 := hF b h
      refine ⟨Nat.le_trans hk1.size h2, fun hb => ?_, fun hb => ?_⟩
      · have h2 : w2.heap.size = b := by simpa [OB, Value.ownBlock] using hb
        omega
      · have h2 : w2.heap.size + 1 = b := by simpa [OB, Value.ownBlock] using hb
        omega
  case round =>
    obtain ⟨k, F, hk, hk12, hgk, rfl, hf, hvg, hva, hF, hkp⟩ := hrel
    have hal := allOf_len ls k
    have hpl := putF_len M (allOf ls k) [] false 0
    obtain ⟨ls0, l0, cr0, e0, h0⟩ : ∃ ls0 l0 cr0 e0, putF M (allOf ls k) [] false 0 = (ls0, l0, cr0, e0) := ⟨_, _, _, _, rfl⟩
    rw [h0] at hf hvg hpl
    have HG := Lib.hid hgk
    have H0 := Lib.hid h0
    have HF := Lib.hid hF
    clear hgk h0 hF
    simp only [List.length_nil, Nat.zero_add] at hpl
    by_cases hlt : k < n ∧ k < 12
    · obtain ⟨hlt, hlt12⟩ := hlt
      have hrw := HRW.out.kept0 hkp
      have hkl : k < ls.length := by rw [hrw.1]; exact hlt
      obtain ⟨ad, hA, hadS, hcells⟩ := hrw.2 (by omega)
      subst hA
      obtain ⟨B, m, cB, hcell, hmc, hcB, hrB⟩ := hcells k hkl
      obtain ⟨b, hb⟩ : ∃ b, ls[k].take 200 = b := ⟨_, rfl⟩
      have hbl : b.length ≤ 200 := by rw [← hb]; simp; omega
      have hall := allOf_succ ls k hkl
      rw [hb] at hall
      obtain ⟨ls1, l1, cr1, e1, h1⟩ : ∃ ls1 l1 cr1 e1, putF M b l0 cr0 e0 = (ls1, l1, cr1, e1) := ⟨_, _, _, _, rfl⟩
      have hpl1 := putF_len M b l0 cr0 e0
      rw [h1] at hpl1
      simp only at hpl1
      have hnew : putF M (allOf ls (k + 1)) [] false 0 = (ls0 ++ ls1, l1, cr1, e1) := by
        rw [hall, putF_append, H0.out]
        simp [h1]
      have HN := Lib.hid hnew
      have H1 := Lib.hid h1
      have HB := Lib.hid hb
      have HALL := Lib.hid hall
      have hx0 : e0 ≠ 0 → ls1 = [] := by
        intro he
        rw [putF_err _ _ _ he] at h1
        injection h1 with h1 _
        exact h1.symm
      have HX := Lib.hid hx0
      clear hcells hnew h1 hb hall hx0
      go_wp2_with fail
      refine (short_calls _ _ _ _ _ _ hrB hmc hcB).mono ?_
      rintro en wx ⟨m', rfl, hrb, hm1, hm2, rfl⟩
      rw [HB.out] at hrb
      go_wp2_with fail
      refine (error_calls _ _ _ _ _ _ _ hf).mono ?_
      rintro en wx ⟨rfl, rfl⟩
      go_wp2_with fail
      refine (put_any hf (hrb.mono fun j _ hj hFj => absurd (HF.out j hFj).1 (by omega)) (by omega) H1.out).mono ?_
      rintro en w3 ⟨v3, F3, rfl, hv3, hf3, hF3, hk3⟩
      obtain ⟨A3, c3, rfl, hc3, hr3⟩ := hv3.readsN (n := ls1.length) (strs_length _)
      have hcase : (e0 != 0) = false ∨ ((e0 != 0) = true ∧ ¬ 0 < ls1.length) := by
        by_cases he : e0 = 0
        · exact .inl (by simp [he])
        · exact .inr ⟨by simp [he], by rw [HX.out he]; simp⟩
      have hkp3 : Kept w w3 NoB := hkp.trans hk3 fun j hj => .inr (HF.out j hj).1
      have hvg3 := hvg.kept_ hk3 fun j hj hFj => (HF.out j hFj).2.2 hj
      have hva3 := hva.kept_ hk3 fun j hj hFj => (HF.out j hFj).2.1 hj
      have hF3' : ∀ b, F3 b → w.heap.size ≤ b ∧ ¬ OB u7 b ∧ ¬ OB u8 b := by
        intro b hb
        rcases (hF3 b hb).1 with h | h
        · exact HF.out b h
        · exact ⟨Nat.le_trans hkp.size h, fun h' => absurd (hva.lt h') (by omega), fun h' => absurd (hvg.lt h') (by omega)⟩
      have hrb3 := hrb.kept hk3 fun j _ hj hFj => absurd (HF.out j hFj).1 (by omega)
      have HF3 := Lib.hid hF3'
      clear hF3 hF3' hrb hvg hva hf hk3 hrw hrB
      have hones : ∀ l : List (List UInt8), ∀ u ∈ strs l, u.oneCell' = true := by
        intro l u hu
        simp only [strs, List.mem_map] at hu
        obtain ⟨q, _, rfl⟩ := hu
        rfl
      have honeb : ∀ l : List UInt8, ∀ u ∈ b8s l, u.oneCell' = true := by
        intro l u hu
        simp only [b8s, List.mem_map] at hu
        obtain ⟨q, _, rfl⟩ := hu
        rfl
      have O1 := Lib.hid (hones ls1)
      have O2 := Lib.hid (honeb b)
      clear hones honeb
      rcases hcase with hb0 | ⟨hb0, hx0⟩
      all_goals
        go_wp2_with (first
          | (at_builtin; refine wpList_appN (W := w3) rfl (.tmp 59) (.tmp 60) 25 9 (.string ByteArray.empty) 16 rfl Try.underlying25 info_str rfl (by decide) (fun j => w.heap.size ≤ j) (fun j => wr.heap.size ≤ j) u8 (strs ls0) (strs ls1) A3 ls1.length c3 rfl rfl O1.out hvg3 hr3 (fun j hj => Nat.le_trans hkp3.size hj) (by rw [strs_length]; omega) ?_; intro v4 w4 hown4 hkp4 hob4; have hva4 := hva3.kept_ hkp4 (hva3.apart hvg3 (by decide)); have hrb4 := hrb3.kept hkp4 (fun j _ hj hO => absurd (hvg3.2 j hO) (by omega)))
          | (at_builtin; refine wpList_appN (W := w4) rfl (.tmp 62) (.tmp 63) 29 5 (.int .u8 0) 1 rfl Try.underlying29 info_u8 rfl (by decide) (fun j => w.heap.size ≤ j) (fun j => j < w.heap.size) u7 (b8s (allOf ls k)) (b8s b) B m' cB rfl rfl O2.out hva4 hrb4 (fun j hj => Nat.le_trans (Nat.le_trans hkp3.size hkp4.size) hj) (by rw [b8s_length]; omega) ?_; intro v5 w5 hown5 hkp5 hob5)
          | fail)
        have hf5 := (hf3.kept hkp4 fun j hj => (HF3.out j hj).2.2).kept hkp5 fun j hj => (HF3.out j hj).2.1
        have hvg5 := (hown4.kept_ hkp5 (fun j h4 h7 => (hown4.apart hva4 (by decide)) j h4 h7))
        rw [← strs_append] at hvg5
        have hva5 := hown5
        rw [← b8s_append, ← HALL.out] at hva5
        have hal5 := allOf_len ls (k + 1)
        have hF5 : ∀ j, F3 j → w.heap.size ≤ j ∧ ¬ OB v5 j ∧ ¬ OB v4 j := by
          intro j hj
          have h1 := HF3.out j hj
          have hlt3 := hf3.2 j hj
          refine ⟨h1.1, fun h5 => (hob5 j h5).elim h1.2.1 fun h => ?_, fun h4 => (hob4 j h4).elim h1.2.2 fun h => ?_⟩
          · have := hkp4.size; omega
          · omega
        have hkp5' : Kept w w5 NoB := (hkp3.trans hkp4 fun j hj => .inr (hvg3.2 j hj)).trans hkp5 fun j hj => .inr (hva4.2 j hj)
        obtain ⟨A5, c5, hv5, hc5, hr5⟩ := hva5.readsN (b8s_length _)
        have HF5 := Lib.hid hF5
        clear hF5 hown5 hown4 hkp5 hkp4 hob4 hob5 hva4 hva3 hvg3 hf3 hrb4 hrb3 hr3 hv3 hkp3
        subst hv5
        refine (lines_any (ls := ls0 ++ ls1) (l := l1) (cr := cr1) (e := e1) hr5 hc5 (by omega) (by rw [HM.out]; exact HN.out)).mono ?_
        rintro en w6 ⟨v6, rfl, hv6, hk6⟩
        obtain ⟨A4, c4, hv4, _, hr4⟩ := (hvg5.kept0 hk6).readsN (n := ls0.length + ls1.length) (by rw [strs_length, List.length_append])
        have hvg6 := hvg5.kept0 hk6
        have hva6 := hva5.kept0 hk6
        clear hvg5 hva5
        subst hv4
        obtain ⟨A6, c6, rfl, _, hr6⟩ := hv6.readsN (n := ls0.length + ls1.length) (by rw [strs_length, List.length_append])
        have hf6 := hf5.kept0 hk6
        have hkp6 := hkp5'.trans' hk6
        have hlen7 : ls0.length + ls1.length ≤ 140737488355328 := by omega
        clear hf5 hk6 hkp5' hr5
        go_wp2_with fail
        refine (same_calls _ _ _ _ _ _ _ _ _ _ _ hr4 hr6 hlen7 hlen7).mono ?_
        rintro en w7 ⟨rfl, hk7⟩
        rw [decide_eq_true (rfl : ls0 ++ ls1 = ls0 ++ ls1)]
        have hf7 := hf6.kept0 hk7
        have hva7 := hva6.kept0 hk7
        have hvg7 := hvg6.kept0 hk7
        have hkp7 := hkp6.trans' hk7
        clear hf6 hva6 hvg6 hkp6 hk7 hr4 hr6 hv6
        go_wp2_with fail
        refine (error_calls _ _ _ _ _ _ _ hf7).mono ?_
        rintro en wx ⟨rfl, rfl⟩
        go_wp2_with fail
        refine (rest_calls _ _ _ _ _ _ _ hf7 (by omega)).mono ?_
        rintro en wx ⟨rfl, rfl⟩
        go_wp2_with fail
        go_roundg (12 - (k + 1))
        case measure => have := HG.out; omega
        case rel =>
          refine ⟨k + 1, F3, by omega, by omega, rfl, by go_num, ?_, ?_, hva7, HF5.out, hkp7⟩
          · rw [HN.out]; exact hf7
          · rw [HN.out]; exact hvg7
    · have hx : ¬ k < n ∨ ¬ k < 12 := by omega
      rcases Nat.lt_or_ge k n with h1 | h1
      · have h2 : ¬ k < 12 := by omega
        go_wp2_with fail
        go_ret
        exact ⟨rfl, hkp⟩
      · go_wp2_with fail
        go_ret
        exact ⟨rfl, hkp⟩

theorem framePlays_walk (W : World) (a0 : Int) (a1 : Option Addr) (len1 cap1 : Nat) (w0 : (Lit.int .i64 a0).wf = true) (w1 : IsRows .u8 W a1 len1 cap1) :
    Calls Try.prog 4 #[.int .i64 a0, .slice a1 len1 cap1] W fun en w' => en = .returned (.bool true) ∧ Below W.heap.size W w' := by
  obtain ⟨ls, hls, hm⟩ := w1.rows
  exact (plays_calls W a0 a1 len1 cap1 ls hls).mono fun _ _ ⟨he, hk⟩ => ⟨he, hk.below⟩
end Go.Proofs.Ytccggeliajbfaaa
