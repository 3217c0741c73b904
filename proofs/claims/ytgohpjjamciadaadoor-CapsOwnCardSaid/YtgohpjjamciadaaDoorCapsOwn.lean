/- CapsOwn's walk. -/
import Derived.Test.YtgohpjjamciadaaDoorCapsF
import Derived.Test.YtgohpjjamciadaaDoorCapsG
import Derived.Test.YtgohpjjamciadaaDoorRowW
import Derived.Lib.ReplaceLaws
import Derived.Deep.RegionHeld3
import Derived.StillTailTactics
set_option linter.unusedVariables false
set_option linter.unusedSimpArgs false
namespace Go.Proofs.YtgohpjjamciadaaDoor
open Go.RowKit Go.Shelf

/-! ### Plain -/
theorem splitK_piece2 (sep : List UInt8) : ∀ (k : Nat) (s : List UInt8), ∀ x ∈ Lib.splitK sep 0 k s, x.length ≤ s.length
  | 0, s, x, hx => by rw [Lib.splitK, List.mem_singleton] at hx; rw [hx]; exact Nat.le_refl _
  | k + 1, s, x, hx => by
    rw [Lib.splitK] at hx
    split at hx
    · rw [List.mem_singleton] at hx
      rw [hx]
      exact Nat.le_refl _
    · rw [List.mem_cons] at hx
      rcases hx with rfl | hx
      · rw [List.length_take]; omega
      · have := splitK_piece2 sep k _ x hx
        rw [List.length_drop] at this
        omega
theorem linesL_piece2 (proto : Int) (ls : List (List UInt8)) (body : List UInt8) (n : Nat) (h1 : ∀ x ∈ ls, x.length ≤ n) (h2 : body.length ≤ n) : ∀ x ∈ linesL proto ls body, x.length ≤ n := by
  intro x hx
  unfold linesL at hx
  split at hx
  · exact h1 x (List.mem_of_mem_drop hx)
  · split at hx
    · exact h1 x (List.mem_of_mem_take (List.mem_of_mem_drop hx))
    · split at hx
      · exact Nat.le_trans (splitK_piece2 _ _ _ x hx) h2
      · cases hx
theorem wordsG_fine : ∀ (l cur : List UInt8), (∀ x ∈ cur, isBl x = false) → ∀ w ∈ wordsG cur l, w ≠ [] ∧ ∀ x ∈ w, isBl x = false
  | [], cur, hc, w, hw => by
    rw [wordsG] at hw
    unfold flush at hw
    split at hw
    · cases hw
    · rename_i hne
      rw [List.mem_singleton.1 hw]
      exact ⟨hne, hc⟩
  | c :: l, cur, hc, w, hw => by
    rw [wordsG] at hw
    split at hw
    · rw [List.mem_append] at hw
      rcases hw with hw | hw
      · unfold flush at hw
        split at hw
        · cases hw
        · rename_i hne
          rw [List.mem_singleton.1 hw]
          exact ⟨hne, hc⟩
      · exact wordsG_fine l [] (fun x hx => by cases hx) w hw
    · rename_i h
      exact wordsG_fine l (cur ++ [c]) (fun x hx => by
        rcases List.mem_append.1 hx with h1 | h1
        · exact hc x h1
        · rw [List.mem_singleton.1 h1]; simpa using h) w hw
/-- A word in capitals: not empty, no blank. -/
structure Wd (n : Nat) (w : List UInt8) : Prop where
  ne : w ≠ []
  bl : ∀ x ∈ w, isBl x = false
  up : upL w = w
  len : w.length ≤ n
theorem wordsG_piece : ∀ (l cur : List UInt8), ∀ w ∈ wordsG cur l, w.length ≤ cur.length + l.length
  | [], cur, w, hw => by
    rw [wordsG] at hw
    unfold flush at hw
    split at hw
    · cases hw
    · rw [List.mem_singleton.1 hw]; simp
  | c :: l, cur, w, hw => by
    rw [wordsG] at hw
    split at hw
    · rw [List.mem_append] at hw
      rcases hw with hw | hw
      · unfold flush at hw
        split at hw
        · cases hw
        · rw [List.mem_singleton.1 hw]; simp
      · have := wordsG_piece l [] w hw
        simp at this ⊢
        omega
    · have := wordsG_piece l (cur ++ [c]) w hw
      simp at this ⊢
      omega
theorem wd_of {l w : List UInt8} {n : Nat} (hl : l.length ≤ n) (hw : w ∈ wordsL (upL l)) : Wd n w := by
  have h := wordsG_fine (upL l) [] (fun x hx => by cases hx) w hw
  have h2 := wordsG_piece (upL l) [] w hw
  rw [upL_length] at h2
  refine ⟨h.1, h.2, ?_, by simp at h2; omega⟩
  rw [words_up, List.mem_map] at hw
  obtain ⟨v, _, rfl⟩ := hw
  exact upL_up v
theorem wordsG_word : ∀ (w r cur : List UInt8), (∀ x ∈ w, isBl x = false) → wordsG cur (w ++ r) = wordsG (cur ++ w) r
  | [], r, cur, _ => by simp
  | c :: w, r, cur, h => by
    rw [List.cons_append, wordsG, h c (by simp), if_neg Bool.false_ne_true, wordsG_word w r (cur ++ [c]) (fun x hx => h x (by simp [hx]))]
    simp
theorem wordsG_32 (cur r : List UInt8) : wordsG cur (32 :: r) = flush cur ++ wordsG [] r := by rw [wordsG, if_pos (by decide)]
theorem wd_one {n : Nat} {w : List UInt8} (h : Wd n w) : wordsL (upL w) = [w] := by
  have := wordsG_word w [] [] h.bl
  rw [List.append_nil, List.nil_append] at this
  rw [h.up, wordsL, this, wordsG, flush, if_neg h.ne]
theorem wd_two {n : Nat} {v w : List UInt8} (hv : Wd n v) (hw : Wd n w) : wordsL (upL (32 :: (v ++ 32 :: 32 :: w))) = [v, w] := by
  have e : upL (32 :: (v ++ 32 :: 32 :: w)) = 32 :: (v ++ 32 :: 32 :: w) := by
    show upC 32 :: upL (v ++ 32 :: 32 :: w) = _
    rw [upL_append, hv.up]
    show upC 32 :: (v ++ upC 32 :: upC 32 :: upL w) = _
    rw [hw.up]
    rfl
  have h2 := wordsG_word w [] [] hw.bl
  rw [List.append_nil, List.nil_append] at h2
  rw [e, wordsL, wordsG_32, wordsG_word v _ [] hv.bl, List.nil_append, wordsG_32, wordsG_32, h2, wordsG]
  simp [flush, hv.ne, hw.ne]
/-- Each thing's name and words are words. -/
theorem caps_wd {L : List (List UInt8)} {n : Nat} (h : ∀ l ∈ L, l.length ≤ n) : ∀ c ∈ capsL L, Wd n c.1 ∧ ∀ w ∈ c.2, Wd n w := by
  intro c hc
  unfold capsL at hc
  rw [List.mem_filterMap] at hc
  obtain ⟨l, hl, hcl⟩ := hc
  unfold capOf at hcl
  cases hw : wordsL (upL l) with
  | nil => rw [hw] at hcl; cases hcl
  | cons w ws =>
    rw [hw] at hcl
    injection hcl with hcl
    subst hcl
    have hwd : ∀ x ∈ w :: ws, Wd n x := fun x hx => wd_of (h l hl) (by rw [hw]; exact hx)
    exact ⟨hwd w (by simp), fun x hx => hwd x (by simp [hx])⟩
theorem own_name {L : List CapV} {c : CapV} {n : Nat} (hc : c ∈ L) (h : Wd n c.1) : hasL L c.1 = true := by
  unfold hasL
  rw [wd_one h]
  exact List.any_eq_true.2 ⟨c, hc, by simp [hasC]⟩
theorem own_word {L : List CapV} {c : CapV} {w : List UInt8} {n : Nat} (hc : c ∈ L) (h : Wd n c.1) (hw : w ∈ c.2) (hww : Wd n w) : hasL L (32 :: (c.1 ++ 32 :: 32 :: w)) = true := by
  unfold hasL
  rw [wd_two h hww]
  exact List.any_eq_true.2 ⟨c, hc, by simp [hasC, hw]⟩
theorem own_none (L : List CapV) : hasL L [] = false ∧ hasL L [32] = false := ⟨rfl, rfl⟩
theorem split_count (l : List UInt8) : (Lib.split l [13, 10]).length ≤ l.length / 2 + 1 := by
  have h := Lib.countB_mul_le (strB [13, 10]) (by decide) (strB l).size (strB l) (Nat.le_refl _)
  have hck : Lib.countB (strB l) (strB [13, 10]) = Lib.count l [13, 10] := by
    unfold Lib.countB
    rw [strB_toList, strB_toList]
  rw [hck, strB_size, strB_size] at h
  have h2 : ∀ (k : Nat) (s : List UInt8), (Lib.splitK [13, 10] 0 k s).length ≤ k + 1 := by
    intro k
    induction k with
    | zero => intro s; simp [Lib.splitK]
    | succ k ih =>
      intro s
      rw [Lib.splitK]
      split
      · simp
      · have := ih (s.drop ((Lib.index s [13, 10]).toNat + 2))
        simp only [List.length_cons, List.length_nil]
        exact Nat.succ_le_succ this
  have h3 := h2 (Lib.count l [13, 10]) l
  unfold Lib.split
  simp at h
  omega
theorem lines_few (proto : Int) (ls : List (List UInt8)) (body : List UInt8) (h1 : ls.length ≤ 24) (h2 : body.length ≤ 1000) : (linesL proto ls body).length ≤ 600 := by
  unfold linesL
  split
  · rw [List.length_drop]; omega
  · split
    · rw [List.length_drop, List.length_take]; omega
    · split
      · have := split_count body
        omega
      · simp

def OwnS (w0 : World) (n gk : Nat) (v : Value) (top : Nat) (wr : World) : Prop :=
  ∃ i, i ≤ n ∧ i ≤ top ∧ gk = top - i ∧ v = .int .i64 (i : Int) ∧ Kept w0 wr NoB

set_option maxHeartbeats 8000000 in
set_option maxRecDepth 100000 in
theorem own_law (w : World) (proto : Int) (code : ByteArray) (A B : Option Addr) (n c m d : Nat) (ls : List (List UInt8)) (body : List UInt8)
    (hA : Reads w (fun b => b < w.heap.size) A n (strs ls)) (hnc : n ≤ c) (hB : Reads w (fun b => b < w.heap.size) B m (b8s body)) (hmd : m ≤ d) (hls : ∀ l ∈ ls, l.length ≤ 9223372036854775807) (hm : MaxI w) :
    Calls Tryd.prog 4 #[.int .i64 proto, .agg #[.string code, .slice A n c, .slice B m d]] w fun en w' => en = .returned (.bool true) ∧ Kept w w' NoB := by
  obtain ⟨W, hW⟩ : ∃ W, w.alloc (.cells #[.string code, .slice A n c, .slice B m d] 25) = W := ⟨_, rfl⟩
  have hkW : Kept w W NoB := by rw [← hW]; exact (Kept.refl _ _).alloc _
  have hbW : Blk W w.heap.size 25 #[.string code, .slice A n c, .slice B m d] := by rw [← hW]; exact Blk.new _ _ _
  have HK0 := Lib.hid hkW
  have HB0 := Lib.hid hbW
  have HA := Lib.hid hA
  have HB := Lib.hid hB
  have HLS := Lib.hid hls
  clear hkW hbW hA hB hls
  go_enter Tryd.func4, Tryd.ntmps4
  go_wp2_with fail
  refine (shown_calls W (hm.kept0 HK0.out)).mono ?_
  rintro en w1 ⟨rfl, hk1⟩
  have HK1 := Lib.hid (HK0.out.trans' hk1)
  have HB1 := Lib.hid (HB0.out.kept0 hk1)
  have c0 : w1.cell? ⟨w.heap.size, 0, none⟩ = some (.string code) := by rw [HB1.out.cell]; rfl
  have c1 : w1.cell? ⟨w.heap.size, 1, none⟩ = some (.slice A n c) := by rw [HB1.out.cell]; rfl
  have c2 : w1.cell? ⟨w.heap.size, 2, none⟩ = some (.slice B m d) := by rw [HB1.out.cell]; rfl
  clear hk1 hW
  go_wp2_with fail
  refine (few_calls w1 code _ (fun b => b < w.heap.size) A B n c m d ls body (HA.out.kept0 HK1.out) hnc (HB.out.kept0 HK1.out) hmd HLS.out).mono ?_
  clear c0 c1 c2
  rintro en w2 ⟨C, k, e, D, j, f, rfl, hke, hjf, hrC, hrD, hk2⟩
  have HK2 := Lib.hid (HK1.out.trans' hk2)
  have HC3 := Lib.hid hrC
  have HD3 := Lib.hid hrD
  clear hk2 hrC hrD
  obtain ⟨l2, hl2⟩ : ∃ l, fewL ls = l := ⟨_, rfl⟩
  obtain ⟨b2, hb2⟩ : ∃ b, body.take 1000 = b := ⟨_, rfl⟩
  have hl2n : l2.length ≤ 24 := by rw [← hl2, fewL, List.length_map, List.length_take]; omega
  have hl2p : ∀ x ∈ l2, x.length ≤ 1000 := by
    intro x hx
    rw [← hl2, fewL, List.mem_map] at hx
    obtain ⟨y, _, rfl⟩ := hx
    rw [List.length_take]
    omega
  have hb2n : b2.length ≤ 1000 := by rw [← hb2, List.length_take]; omega
  rw [hl2] at HC3
  rw [hb2] at HD3
  obtain ⟨L, hL⟩ : ∃ L, linesL proto l2 b2 = L := ⟨_, rfl⟩
  have hLn : L.length ≤ 600 := by have := lines_few proto l2 b2 hl2n hb2n; rw [hL] at this; omega
  have hLp : ∀ x ∈ L, x.length ≤ 1000 := by rw [← hL]; exact linesL_piece2 proto l2 b2 1000 hl2p hb2n
  have hLp2 : ∀ x ∈ L, x.length ≤ 1099511627 := fun x hx => by have := hLp x hx; omega
  have hwd := caps_wd hLp
  obtain ⟨cs, hcs⟩ : ∃ cs, capsL L = cs := ⟨_, rfl⟩
  have hcn : cs.length ≤ 600 := by rw [← hcs]; have := capsL_len L; omega
  have hcw : ∀ x ∈ cs, x.2.length ≤ 1099511627776 := by rw [← hcs]; exact fun x hx => Nat.le_trans (capsL_words L 1000 hLp x hx) (by decide)
  rw [hcs] at hwd
  have hkn : k ≤ 24 := by have h := HC3.out.1; rw [strs_length] at h; omega
  have HL := Lib.hid hL
  have HLP := Lib.hid hLp2
  have HCS := Lib.hid hcs
  have HCW := Lib.hid hcw
  have HWD := Lib.hid hwd
  clear hl2 hb2 hl2p hL hLp hLp2 hcs hcw hwd
  go_wp2_with fail
  have ha := of_calls w2 proto (.string code) _ _ C D k e j f l2 b2 HC3.out hke HD3.out (by omega) (by omega) (hm.kept0 HK2.out) ⟨_, rfl⟩ L HL.out (by omega) HLP.out
  rw [HCS.out] at ha
  refine ha.mono ?_
  clear ha
  rintro en w4 ⟨E, e4, rfl, he4, hc4, hk4⟩
  have HK4 := Lib.hid (HK2.out.trans' hk4)
  have HE4 := Lib.hid hc4
  have t600 : ¬ ((600 : Int) < (cs.length : Int)) := by omega
  clear hk4 hc4
  go_wp2_with fail
  refine (has_calls w4 _ E cs.length e4 cs [] HE4.out (by omega) (by decide) (hm.kept0 HK4.out) HCW.out).mono ?_
  rw [(own_none cs).1]
  rintro en w5 ⟨rfl, hk5⟩
  have HK5 := Lib.hid (HK4.out.trans' hk5)
  have HE5 := Lib.hid (HE4.out.kept0 hk5)
  clear hk5
  go_wp2_with fail
  refine (has_calls w5 _ E cs.length e4 cs [32] HE5.out (by omega) (by decide) (hm.kept0 HK5.out) HCW.out).mono ?_
  rw [(own_none cs).2]
  rintro en w6 ⟨rfl, hk6⟩
  have HK6 := Lib.hid (HK5.out.trans' hk6)
  have HE6 := Lib.hid (HE5.out.kept0 hk6)
  clear hk6
  go_wp2_with fail
  refine (has_calls w6 NoB none 0 0 [] [65] (CapsR.nil _ _ _) (by decide) (by decide) (hm.kept0 HK6.out) (fun x hx => by cases hx)).mono ?_
  rw [show hasL [] [65] = false by decide]
  rintro en w7 ⟨rfl, hk7⟩
  have HK7 := Lib.hid (HK6.out.trans' hk7)
  have HE7 := Lib.hid (HE6.out.kept0 hk7)
  clear hk7
  go_wp2_with fail
  go_loopg [7, 8] 24 (fun gk v7 v8 wr => OwnS w7 cs.length gk v7 24 wr)
  case atStart => exact ⟨0, Nat.zero_le _, Nat.zero_le _, rfl, rfl, Kept.refl _ _⟩
  case round =>
    obtain ⟨i, hi, hi24, hgk, rfl, hkr⟩ := hrel
    have HG := Lib.hid hgk
    have HKR := Lib.hid hkr
    have HEr := Lib.hid (HE7.out.kept0 hkr)
    clear hgk hkr
    by_cases hlt : i < cs.length ∧ i < 24
    · obtain ⟨hlt, h24⟩ := hlt
      have t24 : (i : Int) < 24 := by omega
      have tn : (i : Int) < (cs.length : Int) := by omega
      obtain ⟨ad, X, x, xc, hA1, hab, hcell0, hcell1, hxc, hX⟩ := HEr.out.at_ hlt hlt
      subst hA1
      have hmem := List.getElem_mem hlt
      have hw1 := (HWD.out cs[i] hmem).1
      have hw2 := (HWD.out cs[i] hmem).2
      have hon := own_name hmem hw1
      have how := fun v hv => own_word hmem hw1 hv (hw2 v hv)
      obtain ⟨p, hp⟩ : ∃ p, cs[i] = p := ⟨_, rfl⟩
      obtain ⟨p1, p2⟩ := p
      rw [hp] at hcell0 hX hon hw1 hw2
      simp only [hp] at how
      have hpl := hw1.len
      have hpe : (p1 == ([] : List UInt8)) = false := beq_false_of_ne hw1.ne
      have HUP := Lib.hid hw1.up
      have HP := Lib.hid hp
      have how1 : ∀ v ∈ p2, hasL cs (32 :: (p1 ++ 32 :: 32 :: v)) = true := how
      have hon1 : hasL cs p1 = true := hon
      have HON := Lib.hid hon1
      have HOW := Lib.hid how1
      have HW2 := Lib.hid hw2
      have HX := Lib.hid hX
      clear hp hmem hw1 hw2 hon hon1 how how1 hX
      simp only at hpl hpe
      go_wp2_with fail
      have HM := Lib.hid (hm.kept0 ((HK7.out.trans' HKR.out).drew))
      have HED := Lib.hid (HEr.out.kept0 (Kept.refl wr NoB).drew)
      have k0 := HKR.out.drew
      go_region_held3 (fun w' => w'.cell? (ad.add (i * 2)) = some (.string (strB p1)) ∧ Kept w7 w' NoB) (first | exact ⟨hcell0, k0⟩ | exact ⟨cq, kq⟩ | exact ⟨cu, ku⟩) (first
        | (go_at_call 14; refine (has_calls _ _ (some ad) cs.length e4 cs p1 HED.out (by omega) (by omega) HM.out HCW.out).mono ?_; rw [HON.out]; rintro en wq ⟨rfl, hkq⟩; have cq := hkq.cell hcell0 (fun x => x); have kq := k0.trans' hkq)
        | (go_at_call 16; refine (refUpper_calls _ p1 (by omega)).mono ?_; rw [show upL p1 = p1 from HUP.out]; rintro en wu ⟨rfl, hku⟩; have cu := hku.cell cq (fun x => x); have ku := kq.trans' hku))
      have KU := Lib.hid ku
      clear cu ku cq kq hku hkq k0 hcell0 hcell1 hab
      go_wp2_with fail
      go_loopg [8] 10 (fun gk v8 wr' => OwnS wu p2.length gk v8 10 wr')
      case atStart => exact ⟨0, Nat.zero_le _, Nat.zero_le _, rfl, rfl, Kept.refl _ _⟩
      case round =>
        obtain ⟨q, hq, hq10, hgk2, rfl, hki⟩ := hrel
        have HG2 := Lib.hid hgk2
        have HKI := Lib.hid (KU.out.trans' hki)
        have hki0 := Lib.hid hki
        obtain ⟨ad', Y, y, yc, hA2, _, hc0, hc1, hyc, hY⟩ := (HE7.out.kept0 (KU.out.trans' hki)).at_ hlt hlt
        injection hA2 with hA2
        subst hA2
        rw [HP.out] at hc0 hY
        have hye : p2.length = y := by have h := hY.1; rwa [strs_length] at h
        subst hye
        have HY := Lib.hid hY
        clear hgk2 hki hY
        simp only at hc0
        by_cases hlt2 : q < p2.length ∧ q < 10
        · obtain ⟨hq1, hq2⟩ := hlt2
          have tq1 : (q : Int) < (p2.length : Int) := by omega
          have tq2 : (q : Int) < 10 := by omega
          obtain ⟨yd, u, hY1, hu, hcy⟩ := HY.out.at_ hq1
          subst hY1
          rw [strs_at p2 q hq1] at hu
          injection hu with hu
          subst hu
          have hmem := List.getElem_mem hq1
          have hwl := (HW2.out p2[q] hmem).len
          have hhas := HOW.out p2[q] hmem
          obtain ⟨v, hv⟩ : ∃ v, p2[q] = v := ⟨_, rfl⟩
          rw [hv] at hcy hwl hhas
          have HH := Lib.hid hhas
          have e1 : (⟨#[32]⟩ : ByteArray) ++ strB p1 = strB (32 :: p1) := strB_append [32] p1
          have e2 : strB (32 :: p1) ++ (⟨#[32, 32]⟩ : ByteArray) = strB (32 :: (p1 ++ [32, 32])) := strB_append (32 :: p1) [32, 32]
          have e3 : strB (32 :: (p1 ++ [32, 32])) ++ strB v = strB (32 :: (p1 ++ 32 :: 32 :: v)) := by
            refine (strB_append (32 :: (p1 ++ [32, 32])) v).trans ?_
            simp
          have z1 : ¬ (9223372036854775807 < p1.length + 1) := by omega
          have z2 : ¬ (9223372036854775807 < 1 + p1.length) := by omega
          have z3 : ¬ (9223372036854775807 < p1.length + 1 + 2) := by omega
          have z4 : ¬ (9223372036854775807 < p1.length + 2 + 1 + v.length) := by omega
          have z5 : ¬ (9223372036854775807 < p1.length + 3 + v.length) := by omega
          clear hv hmem hhas
          go_wp2_with fail
          have HM2 := Lib.hid (hm.kept0 ((HK7.out.trans' HKI.out).drew))
          have HED2 := Lib.hid (HE7.out.kept0 HKI.out.drew)
          have k0 := HKI.out.drew
          go_region_held3 (fun w' => w'.cell? (ad.add (i * 2)) = some (.string (strB p1)) ∧ w'.cell? ⟨(ad.add (i * 2)).block, (ad.add (i * 2)).off + 1, none⟩ = some (.slice (some yd) p2.length yc) ∧ w'.cell? (yd.add q) = some (.string (strB v)) ∧ Kept w7 w' NoB) (first | exact ⟨hc0, hc1, hcy, k0⟩ | exact ⟨cq0, cq1, cqy, kq⟩) (first
            | (go_at_call 14; refine (has_calls _ _ (some ad) cs.length e4 cs (32 :: (p1 ++ 32 :: 32 :: v)) HED2.out (by omega) (by simp; omega) HM2.out HCW.out).mono ?_; rw [HH.out]; rintro en wq ⟨rfl, hkq⟩; have cq0 := hkq.cell hc0 (fun x => x); have cq1 := hkq.cell hc1 (fun x => x); have cqy := hkq.cell hcy (fun x => x); have kq := k0.trans' hkq))
          have KQ := Lib.hid kq
          have KIQ := Lib.hid (hki0.out.drew.trans' hkq)
          clear kq hkq cq0 cq1 cqy k0
          go_wp2_with fail
          go_roundg (10 - (q + 1))
          case measure => have := HG2.out; omega
          case rel => exact ⟨q + 1, by omega, by omega, rfl, by go_num, KIQ.out⟩
        · have hor : (¬ q < p2.length) ∨ (q < p2.length ∧ ¬ q < 10) := by omega
          rcases hor with h5 | ⟨h5, h6⟩
          all_goals
            go_wp2_with fail
            go_roundg (24 - (i + 1))
            case measure => have := HG.out; omega
            case rel => exact ⟨i + 1, by omega, by omega, rfl, by go_num, HKI.out⟩
    · have hor : (¬ i < cs.length) ∨ (i < cs.length ∧ ¬ i < 24) := by omega
      rcases hor with h5 | ⟨h5, h6⟩
      all_goals
        go_wp2_with fail
        go_ret
        exact ⟨rfl, HK7.out.trans' HKR.out⟩

theorem capsOwn_walk (W : World) (a0 : Int) (a1_0 : ByteArray) (a1_1 : Option Addr) (len1_1 cap1_1 : Nat) (z1_1 : List ByteArray) (a1_2 : Option Addr) (len1_2 cap1_2 : Nat) (z1_2 : List Int)
    (w0 : (Lit.int .i64 a0).wf = true) (w1_1 : IsStrs W a1_1 len1_1 cap1_1 z1_1) (w1_2 : IsRow .u8 W a1_2 len1_2 cap1_2 z1_2) (hsh : W.ShapedOpen Tryd.prog) :
    Calls Tryd.prog 4 #[.int .i64 a0, .agg #[.string a1_0, .slice a1_1 len1_1 cap1_1, .slice a1_2 len1_2 cap1_2]] W fun en w' => en = .returned (.bool true) ∧ Below W.heap.size W w' := by
  obtain ⟨h1, h2, h3, h4⟩ := w1_1.reads
  obtain ⟨h5, h6, h7⟩ := w1_2.bytes_
  have hmap : (z1_1.take len1_1).map Value.string = strs ((z1_1.take len1_1).map fun s => s.data.toList) := by
    unfold strs
    rw [List.map_map]
    refine List.map_congr_left fun s _ => ?_
    simp [strB_data]
  rw [hmap] at h1
  refine (own_law W a0 a1_0 a1_1 a1_2 len1_1 cap1_1 len1_2 cap1_2 _ _ h1 h2 h6 h7 ?_ (MaxI.of_shape hsh)).mono fun _ _ ⟨he, hk⟩ => ⟨he, hk.below⟩
  intro l hl
  rw [List.mem_map] at hl
  obtain ⟨s, hs, rfl⟩ := hl
  have := h4 s hs
  rw [Array.length_toList]
  simp only [maxLen] at this
  exact this
end Go.Proofs.YtgohpjjamciadaaDoor
