/- The walk of FrameCuts. -/
import Derived.Test.YtccggeliajbfaaaClone
import Derived.Test.YtccggeliajbfaaaFramePlays
set_option linter.unusedVariables false
set_option linter.unusedSimpArgs false
namespace Go.Proofs.Ytccggeliajbfaaa
open Go.RowKit

def CutsR (w7 : World) (M : Int) (b : List UInt8) (Fh : Nat → Prop) (h n gk : Nat) (vs vi : Value) (wr : World) : Prop :=
  ∃ (k : Nat) (F : Nat → Prop), k ≤ n ∧ gk = n - k ∧ vi = .int .i64 (k : Int) ∧
    Fr wr F h (putF M (b.take k) [] false 0).2.1 (putF M (b.take k) [] false 0).2.2.1 M (putF M (b.take k) [] false 0).2.2.2 ∧
    Row wr 9 (fun j => w7.heap.size ≤ j) vs (strs (putF M (b.take k) [] false 0).1) ∧ (∀ j, F j → (Fh j ∨ w7.heap.size ≤ j) ∧ ¬ OB vs j) ∧ Kept w7 wr Fh

set_option maxHeartbeats 4000000 in
set_option maxRecDepth 100000 in
theorem cuts_calls (w : World) (most : Int) (A : Option Addr) (n c : Nat) (b0 : List UInt8) (at_ : Nat) (hb0 : Reads w (fun k => k < w.heap.size) A n (b8s b0)) (hc : n ≤ c) (hcm : c ≤ 9223372036854775807) (hat : at_ ≤ 65535) :
    Calls Try.prog 6 #[.int .i64 most, .slice A n c, .int .u16 (at_ : Int)] w fun en w' => en = .returned (.bool true) ∧ Kept w w' NoB := by
  have kc := fun (w : World) (C : Array Value) (n c : Nat) => Lib.run_convert_bytes_const (P := Try.prog) w 29 5 C n c Try.underlying29 Try.underlying5
  obtain ⟨i0, hi0, hz0, hz1, hz2⟩ := info_parts info_u8
  have HI := Lib.hid hi0
  have HZ := Lib.hid hz1
  clear hi0 hz0 hz1 hz2
  obtain ⟨M, hM⟩ : ∃ M, max most 0 = M := ⟨_, rfl⟩
  have HM := Lib.hid hM
  have HA := Lib.hid hb0
  clear hM hb0
  go_enter Try.func6, Try.ntmps6
  go_wp2_with fail
  refine (shown_calls _).mono ?_
  rintro en w1 ⟨rfl, hk1⟩
  go_wp2_with fail
  refine (new_calls _ _).mono ?_
  rintro en wf ⟨f, Ff, rfl, hff, hFf, hkf⟩
  rw [HM.out] at hff
  go_wp2_with fail
  refine (new_calls _ _).mono ?_
  rintro en wg ⟨g, Fg, rfl, hgg, hFg, hkg⟩
  rw [HM.out] at hgg
  go_wp2_with fail
  refine (new_calls _ _).mono ?_
  rintro en wh ⟨h, Fh, rfl, hhh, hFh, hkh⟩
  rw [HM.out] at hhh
  have hkp := ((hk1.trans' hkf).trans' hkg).trans' hkh
  have s1 := hk1.size
  have s2 := hkf.size
  have s3 := hkg.size
  have s4 := hkh.size
  have hfh := (hff.kept0 hkg).kept0 hkh
  have hgh := hgg.kept0 hkh
  have SF : Hid (∀ j, Ff j → w.heap.size ≤ j ∧ j < wf.heap.size) := fun j hj => ⟨Nat.le_trans s1 (hFf j hj), hff.2 j hj⟩
  have SG : Hid (∀ j, Fg j → wf.heap.size ≤ j ∧ j < wg.heap.size) := fun j hj => ⟨hFg j hj, hgg.2 j hj⟩
  have SH : Hid (∀ j, Fh j → wg.heap.size ≤ j ∧ j < wh.heap.size) := fun j hj => ⟨hFh j hj, hhh.2 j hj⟩
  clear hFf hFg hFh hff hgg hkf hkg hkh hk1
  go_wp2_with fail
  refine (short_calls _ _ _ _ _ _ (HA.out.kept0 hkp) hc hcm).mono ?_
  rintro en wx ⟨n1, rfl, hr3, hn1, hn1', rfl⟩
  obtain ⟨b, hb⟩ : ∃ b, b0.take 200 = b := ⟨_, rfl⟩
  rw [hb] at hr3
  have hbl : b.length = n1 := by have := hr3.1; rwa [b8s_length] at this
  have HL := Lib.hid hbl
  clear hb hbl
  obtain ⟨kk, hkk⟩ : ∃ kk : Nat, at_ % (n1 + 1) = kk := ⟨_, rfl⟩
  have hkk' : ((at_ : Nat) : Int) % ((n1 : Int) + 1) = (kk : Int) := by
    have h1 := Int.natCast_emod at_ (n1 + 1)
    rw [hkk, show ((n1 + 1 : Nat) : Int) = (n1 : Int) + 1 from by omega] at h1
    exact h1.symm
  have hkn : kk ≤ n1 := by have := Nat.mod_lt at_ (show 0 < n1 + 1 by omega); rw [hkk] at this; omega
  clear hkk
  -- what the framers make
  obtain ⟨lsx, lx, crx, ex, hx⟩ : ∃ lsx lx crx ex, putF M b [] false 0 = (lsx, lx, crx, ex) := ⟨_, _, _, _, rfl⟩
  obtain ⟨lsy, ly, cry, ey, hy⟩ : ∃ lsy ly cry ey, putF M (b.take kk) [] false 0 = (lsy, ly, cry, ey) := ⟨_, _, _, _, rfl⟩
  obtain ⟨lsz, lz, crz, ez, hz⟩ : ∃ lsz lz crz ez, putF M (b.drop kk) ly cry ey = (lsz, lz, crz, ez) := ⟨_, _, _, _, rfl⟩
  have hsum : lsx = lsy ++ lsz ∧ lx = lz ∧ crx = crz ∧ ex = ez := by
    have := putF_append M (b.take kk) (b.drop kk) [] false 0
    rw [List.take_append_drop, hx, hy] at this
    simp only [hz, Prod.mk.injEq] at this
    exact this
  obtain ⟨rfl, rfl, rfl, rfl⟩ := hsum
  have hlx := putF_len M b [] false 0
  have hly := putF_len M (b.take kk) [] false 0
  have hlz := putF_len M (b.drop kk) ly cry ey
  rw [hx] at hlx
  rw [hy] at hly
  rw [hz] at hlz
  simp only [List.length_append, List.length_nil, Nat.zero_add, List.length_take, List.length_drop] at hlx hly hlz
  have hn1l := HL.out
  rw [hn1l] at hlx hly hlz
  clear hn1l
  have X := Lib.hid hx
  have Y := Lib.hid hy
  have Z := Lib.hid hz
  clear hx hy hz
  obtain ⟨A1, hcut1, hA1⟩ := cut_h (P := Try.prog) 29 5 .i64 Try.underlying29 HI.out HZ.out A n1 c kk (by omega)
  obtain ⟨A2, hcut2, hA2⟩ := cut_l (P := Try.prog) 29 5 .i64 Try.underlying29 HI.out HZ.out A n1 c kk (by omega)
  have R1 : Hid (∀ w', Reads w' (fun j => j < w.heap.size) A n1 (b8s b) → Reads w' (fun j => j < w.heap.size) A1 kk (b8s (b.take kk))) := fun w' h => by
    have := hA1 w' _ _ hkn hn1 h
    rwa [b8s_take] at this
  have R2 : Hid (∀ w', Reads w' (fun j => j < w.heap.size) A n1 (b8s b) → Reads w' (fun j => j < w.heap.size) A2 (n1 - kk) (b8s (b.drop kk))) := fun w' h => by
    have := hA2 w' _ _ hn1 h
    rwa [b8s_drop] at this
  clear hA1 hA2
  go_wp2_with fail
  refine (put_any hfh (hr3.mono fun j _ hj hF => absurd (SF.out j hF).1 (by omega)) (by simp; omega) X.out).mono ?_
  rintro en w3 ⟨vx, Ff3, rfl, hvx, hf3, hF3, hk3⟩
  have t3 := hk3.size
  have hrb3 := hr3.kept hk3 fun j _ hj hF => absurd (SF.out j hF).1 (by omega)
  have hg3 := hgh.kept hk3 fun j hj hF => by have := SG.out j hj; have := SF.out j hF; omega
  have hh3 := hhh.kept hk3 fun j hj hF => by have := SH.out j hj; have := SF.out j hF; omega
  have hkp3 := hkp.trans hk3 fun j hF => .inr (SF.out j hF).1
  have SF3 : Hid (∀ j, Ff3 j → w.heap.size ≤ j ∧ ((j < wf.heap.size) ∨ wh.heap.size ≤ j) ∧ j < w3.heap.size) := fun j hj => by
    have h1 := hf3.2 j hj
    rcases (hF3 j hj).1 with h | h
    · have := SF.out j h; exact ⟨by omega, .inl (by omega), h1⟩
    · exact ⟨by omega, .inr h, h1⟩
  have BX : Hid (∀ j, OB vx j → wh.heap.size ≤ j ∧ j < w3.heap.size) := fun j hj => ⟨hvx.2 j hj, hvx.lt hj⟩
  clear hfh hgh hhh hr3 hk3 hF3 hkp
  go_wp2_with fail
  refine (put_any hg3 ((R1.out _ hrb3).mono fun j _ hj hF => by have := SG.out j hF; omega) (by simp; omega) Y.out).mono ?_
  rintro en w4 ⟨vy, Fg4, rfl, hvy, hg4, hG4, hk4⟩
  have t4 := hk4.size
  have hrb4 := hrb3.kept hk4 fun j _ hj hF => by have := SG.out j hF; omega
  have hf4 := hf3.kept hk4 fun j hj hF => by have := SF3.out j hj; have := SG.out j hF; omega
  have hh4 := hh3.kept hk4 fun j hj hF => by have := SH.out j hj; have := SG.out j hF; omega
  have hvx4 := hvx.kept_ hk4 fun j hj hF => by have := BX.out j hj; have := SG.out j hF; omega
  have hkp4 := hkp3.trans hk4 fun j hF => .inr (by have := SG.out j hF; omega)
  have BY : Hid (∀ j, OB vy j → w3.heap.size ≤ j ∧ j < w4.heap.size) := fun j hj => ⟨hvy.2 j hj, hvy.lt hj⟩
  have SG4 : Hid (∀ j, Fg4 j → w.heap.size ≤ j ∧ ((wf.heap.size ≤ j ∧ j < wg.heap.size) ∨ w3.heap.size ≤ j) ∧ j < w4.heap.size ∧ ¬ OB vy j) := fun j hj => by
    have h1 := hg4.2 j hj
    have h2 := (hG4 j hj).2
    rcases (hG4 j hj).1 with h | h
    · have := SG.out j h; exact ⟨by omega, .inl (by omega), h1, h2⟩
    · exact ⟨by omega, .inr h, h1, h2⟩
  clear hg3 hf3 hh3 hvx hrb3 hk4 hG4 hkp3
  go_wp2_with fail
  refine (clone_calls _ _ _ _ _ _ _ hg4 (by omega)).mono ?_
  rintro en w5 ⟨cc, Fc, rfl, hc5, hFc, hk5⟩
  have t5 := hk5.size
  have SC : Hid (∀ j, Fc j → w4.heap.size ≤ j) := hFc
  go_wp2_with fail
  obtain ⟨lsc, lc, crc, ec, hcc⟩ : ∃ lsc lc crc ec, putF M [122, 122, 13, 10, 10] ly cry ey = (lsc, lc, crc, ec) := ⟨_, _, _, _, rfl⟩
  refine (put_lit (bs := [122, 122, 13, 10, 10]) hc5 rfl 5 5 rfl (by omega) hcc).mono ?_
  clear hcc
  rintro en w6 ⟨vc, Fc6, rfl, hvc, _, _, hk6⟩
  have t6 := hk6.size
  have hrb6 := (hrb4.kept0 hk5).kept hk6 fun j _ hj hF => by have := SC.out j hF; omega
  have hf6 := (hf4.kept0 hk5).kept hk6 fun j hj hF => by have := SF3.out j hj; have := SC.out j hF; omega
  have hh6 := (hh4.kept0 hk5).kept hk6 fun j hj hF => by have := SH.out j hj; have := SC.out j hF; omega
  have hg6 := (hg4.kept0 hk5).kept hk6 fun j hj hF => by have := SG4.out j hj; have := SC.out j hF; omega
  have hvx6 := (hvx4.kept0 hk5).kept_ hk6 fun j hj hF => by have := BX.out j hj; have := SC.out j hF; omega
  have hvy6 := (hvy.kept0 hk5).kept_ hk6 fun j hj hF => by have := BY.out j hj; have := SC.out j hF; omega
  have hkp6 := (hkp4.trans' hk5).trans hk6 fun j hF => .inr (by have := SC.out j hF; omega)
  clear hvc hf4 hh4 hg4 hvx4 hvy hkp4 hk5 hk6 hc5 hFc hrb4
  go_wp2_with fail
  refine (put_any hg6 ((R2.out _ hrb6).mono fun j _ hj hF => by have := SG4.out j hF; omega) (by omega) Z.out).mono ?_
  rintro en w7 ⟨vz, Fg7, rfl, hvz, hg7, hG7, hk7⟩
  have t7 := hk7.size
  have hrb7 := hrb6.kept hk7 fun j _ hj hF => by have := SG4.out j hF; omega
  have hf7 := hf6.kept hk7 fun j hj hF => by have := SF3.out j hj; have := SG4.out j hF; omega
  have hh7 := hh6.kept hk7 fun j hj hF => by have := SH.out j hj; have := SG4.out j hF; omega
  have hvx7 := hvx6.kept_ hk7 fun j hj hF => by have := BX.out j hj; have := SG4.out j hF; omega
  have hvy7 := hvy6.kept_ hk7 fun j hj hF => (SG4.out j hF).2.2.2 hj
  have hkp7 := hkp6.trans hk7 fun j hF => .inr (by have := SG4.out j hF; omega)
  have SG7 : Hid (∀ j, Fg7 j → ¬ (wg.heap.size ≤ j ∧ j < wh.heap.size)) := fun j hj h2 => by
    rcases (hG7 j hj).1 with h | h
    · have := SG4.out j h; omega
    · omega
  have BZ : Hid (∀ j, OB vz j → w6.heap.size ≤ j) := fun j hj => hvz.2 j hj
  clear hf6 hh6 hg6 hvx6 hvy6 hkp6 hk7 hG7 hrb6
  have hones : ∀ l : List (List UInt8), ∀ u ∈ strs l, u.oneCell' = true := by
    intro l u hu
    simp only [strs, List.mem_map] at hu
    obtain ⟨q, _, rfl⟩ := hu
    rfl
  have ON := Lib.hid hones
  clear hones
  go_wp2_with fail
  go_loopg [19, 20] n1 (fun gk v19 v20 wr => CutsR w7 M b Fh h n1 gk v19 v20 wr)
  case atStart =>
    have h0 : putF M (b.take 0) [] false 0 = ([], [], false, 0) := by simp [putF]
    refine ⟨0, Fh, Nat.zero_le _, rfl, rfl, by rw [h0]; exact hh7.alloc _, by rw [h0]; exact Row.made0 _ _ _ (Nat.le_refl _), ?_, (Kept.refl _ _).alloc _⟩
    intro j hj
    refine ⟨.inl hj, fun hO => ?_⟩
    have h1 : w7.heap.size = j := by simpa [OB, Value.ownBlock] using hO
    have := SH.out j hj
    omega
  case round =>
    obtain ⟨k, F, hk, hgk, rfl, hfr, hvs, hsep, hkr⟩ := hrel
    have HG := Lib.hid hgk
    have SF := Lib.hid hsep
    clear hgk hsep hkk'
    have r1 := hkr.size
    have hbk := hrb7.kept hkr fun j _ hj hF => by have := SH.out j hF; omega
    have hpl := putF_len M (b.take k) [] false 0
    obtain ⟨ls0, l0, cr0, e0, h0⟩ : ∃ ls0 l0 cr0 e0, putF M (b.take k) [] false 0 = (ls0, l0, cr0, e0) := ⟨_, _, _, _, rfl⟩
    rw [h0] at hfr hvs hpl
    simp only [List.length_nil, Nat.zero_add, List.length_take] at hpl
    have H0 := Lib.hid h0
    clear h0
    rcases Nat.lt_or_ge k n1 with hlt | hge
    · have hkl : k < b.length := by rw [HL.out]; exact hlt
      obtain ⟨A', hcut, hA'⟩ := cut_lh (P := Try.prog) 29 5 .i64 .i64 Try.underlying29 HI.out HZ.out A n1 c k (k + 1) (by omega) (by omega)
      have hone : (b.take (k + 1)).drop k = [b[k]] := by
        rw [List.take_succ_eq_append_getElem hkl, List.drop_append_of_le_length (by simp; omega)]
        simp
      have hrA := hA' wr _ _ (by omega) hn1 hbk
      rw [b8s_take, b8s_drop, hone, Nat.add_sub_cancel_left] at hrA
      have hcut' := hcut wr
      rw [Nat.add_sub_cancel_left, show ((k + 1 : Nat) : Int) = (k : Int) + 1 from by omega] at hcut'
      obtain ⟨x, hx⟩ : ∃ x, b[k] = x := ⟨_, rfl⟩
      rw [hx] at hrA
      obtain ⟨ls1, l1, cr1, e1, h1⟩ : ∃ ls1 l1 cr1 e1, putF M [x] l0 cr0 e0 = (ls1, l1, cr1, e1) := ⟨_, _, _, _, rfl⟩
      have hnew : putF M (b.take (k + 1)) [] false 0 = (ls0 ++ ls1, l1, cr1, e1) := by
        rw [List.take_succ_eq_append_getElem hkl, putF_append, H0.out, hx]
        simp only [h1]
      have hpl1 := putF_len M [x] l0 cr0 e0
      rw [h1] at hpl1
      simp only [List.length_cons, List.length_nil, Nat.zero_add] at hpl1
      have HN := Lib.hid hnew
      have H1 := Lib.hid h1
      clear hcut hA' hone hx hnew h1
      go_wp2_with fail
      refine (put_any hfr (hrA.mono fun j _ hj hF => by
        rcases (SF.out j hF).1 with h2 | h2
        · have := SH.out j h2; omega
        · omega) (by omega) H1.out).mono ?_
      rintro en w8 ⟨v8, F8, rfl, hv8, hf8, hF8, hk8⟩
      obtain ⟨A8, c8, rfl, hc8, hr8⟩ := hv8.readsN (n := ls1.length) (strs_length _)
      have hvs8 := hvs.kept_ hk8 fun j hj hF => (SF.out j hF).2 hj
      have hkr8 := hkr.trans hk8 fun j hF => (SF.out j hF).1
      have SF8 : Hid (∀ j, F8 j → (Fh j ∨ w7.heap.size ≤ j) ∧ ¬ OB u19 j) := fun j hj => by
        rcases (hF8 j hj).1 with h2 | h2
        · exact SF.out j h2
        · exact ⟨.inr (by omega), fun hO => by have := hvs.lt hO; omega⟩
      clear hF8 hfr hvs hk8 hbk hrA
      go_wp2_with (at_builtin; refine wpList_appN (W := w8) rfl (.tmp 102) (.tmp 103) 25 9 (.string ByteArray.empty) 16 rfl Try.underlying25 info_str rfl (by decide) (fun j => w7.heap.size ≤ j) (fun j => wr.heap.size ≤ j) u19 (strs ls0) (strs ls1) A8 ls1.length c8 rfl rfl (ON.out _) hvs8 hr8 (fun j hj => Nat.le_trans hkr8.size hj) (by rw [strs_length]; omega) ?_; intro v9 w9 hown9 hk9 hob9)
      go_roundg (n1 - (k + 1))
      case measure => have := HG.out; omega
      case rel =>
        refine ⟨k + 1, F8, by omega, rfl, by go_num, ?_, ?_, ?_, hkr8.trans hk9 fun j hj => .inr (hvs8.2 j hj)⟩
        · rw [HN.out]; exact hf8.kept hk9 fun j hj => (SF8.out j hj).2
        · rw [HN.out, strs_append]; exact hown9
        · intro j hj
          have h2 := SF8.out j hj
          refine ⟨h2.1, fun hO => (hob9 j hO).elim h2.2 fun h3 => ?_⟩
          have := hf8.2 j hj
          omega
    · obtain rfl : k = n1 := by omega
      have htk : b.take k = b := List.take_of_length_le (by rw [HL.out]; exact Nat.le_refl _)
      have heq := H0.out
      rw [htk, X.out] at heq
      simp only [Prod.mk.injEq] at heq
      obtain ⟨rfl, rfl, rfl, rfl⟩ := heq
      clear htk
      have hfr_ := hf7.kept hkr fun j hj hF => by have := SF3.out j hj; have := SH.out j hF; omega
      have hgr_ := hg7.kept hkr fun j hj hF => SG7.out j hj (SH.out j hF)
      have hxr := hvx7.kept_ hkr fun j hj hF => by have := BX.out j hj; have := SH.out j hF; omega
      have hyr := hvy7.kept_ hkr fun j hj hF => by have := BY.out j hj; have := SH.out j hF; omega
      have hzr := hvz.kept_ hkr fun j hj hF => by have := BZ.out j hj; have := SH.out j hF; omega
      have hkpr := hkp7.trans hkr fun j hF => .inr (by have := SH.out j hF; omega)
      clear hf7 hg7 hvx7 hvy7 hvz hkr hkp7 hrb7 hbk hh7
      obtain ⟨Ax, cx, hvx', _, hrx⟩ := hxr.readsN (n := lsy.length + lsz.length) (by rw [strs_length, List.length_append])
      obtain ⟨Ay, cy, hvy', _, hry⟩ := hyr.readsN (strs_length _)
      obtain ⟨Az, cz, hvz', _, hrz⟩ := hzr.readsN (strs_length _)
      obtain ⟨As, cs, hvs', _, hrs⟩ := hvs.readsN (n := lsy.length + lsz.length) (by rw [strs_length, List.length_append])
      subst hvx' hvy' hvz' hvs'
      have hlen7 : lsy.length + lsz.length ≤ 140737488355328 := by omega
      go_wp2_with (first
        | (at_builtin; refine wpList_appN (W := wr.alloc (.cells #[] 9)) rfl (.tmp 105) (.tmp 106) 25 9 (.string ByteArray.empty) 16 rfl Try.underlying25 info_str rfl (by decide) (fun j => wr.heap.size ≤ j) (fun j => w3.heap.size ≤ j) (.slice (some ⟨wr.heap.size, 0, none⟩) 0 0) [] (strs lsy) Ay lsy.length cy rfl rfl (ON.out _) (Row.made0 _ _ _ (Nat.le_refl _)) (hry.alloc _) (fun j hj => by simp at hj; omega) (by simp; omega) ?_; intro v9 w9 hown9 hk9 hob9; have hk9' : Kept wr w9 NoB := ((Kept.refl wr NoB).alloc (.cells #[] 9)).trans hk9 (fun j hj => .inr (Nat.le_of_eq (ob_lit hj))); have hrz9 := hrz.kept0 hk9')
        | (at_builtin; refine wpList_appN (W := w9) rfl (.tmp 107) (.tmp 108) 25 9 (.string ByteArray.empty) 16 rfl Try.underlying25 info_str rfl (by decide) (fun j => wr.heap.size ≤ j) (fun j => w6.heap.size ≤ j) v9 ([] ++ strs lsy) (strs lsz) Az lsz.length cz rfl rfl (ON.out _) hown9 hrz9 (fun j hj => Nat.le_trans hk9'.size hj) (by rw [List.nil_append, strs_length]; omega) ?_; intro v10 w10 hown10 hk10 hob10)
        | fail)
      have h10 : Row w10 9 (fun j => wr.heap.size ≤ j) v10 (strs (lsy ++ lsz)) := by rw [strs_append]; exact hown10
      obtain ⟨A10, c10, hv10, _, hr10⟩ := h10.readsN (n := lsy.length + lsz.length) (by rw [strs_length, List.length_append])
      subst hv10
      have hk10' := hk9'.trans hk10 fun j hj => .inr (hown9.2 j hj)
      have hx10 := hrx.kept0 hk10'
      have hs10 := hrs.kept0 hk10'
      have hf10 := hfr_.kept0 hk10'
      have hg10 := hgr_.kept0 hk10'
      have hh10 := hfr.kept0 hk10'
      have hkp10 := hkpr.trans' hk10'
      clear hown10 hown9 hk9 hk10 hob9 hob10 hk9' hrz9 h10 hfr_ hgr_ hfr hkpr hrx hry hrz hrs hk10' hxr hyr hzr hvs
      refine (same_calls _ _ _ _ _ _ _ _ _ _ _ hx10 hr10 hlen7 hlen7).mono ?_
      rintro en w11 ⟨rfl, hk11⟩
      rw [decide_eq_true (rfl : lsy ++ lsz = lsy ++ lsz)]
      have hx11 := hx10.kept0 hk11
      have hs11 := hs10.kept0 hk11
      have hf11 := hf10.kept0 hk11
      have hg11 := hg10.kept0 hk11
      have hh11 := hh10.kept0 hk11
      have hkp11 := hkp10.trans' hk11
      clear hx10 hs10 hf10 hg10 hh10 hkp10 hk11 hr10
      go_wp2_with fail
      refine (same_calls _ _ _ _ _ _ _ _ _ _ _ hx11 hs11 hlen7 hlen7).mono ?_
      rintro en w12 ⟨rfl, hk12⟩
      rw [decide_eq_true (rfl : lsy ++ lsz = lsy ++ lsz)]
      have hf12 := hf11.kept0 hk12
      have hg12 := hg11.kept0 hk12
      have hh12 := hh11.kept0 hk12
      have hkp12 := hkp11.trans' hk12
      clear hx11 hs11 hf11 hg11 hh11 hkp11 hk12
      go_wp2_with fail
      refine (error_calls _ _ _ _ _ _ _ hh12).mono ?_
      rintro en wx ⟨rfl, rfl⟩
      go_wp2_with fail
      refine (rest_calls _ _ _ _ _ _ _ hf12 (by omega)).mono ?_
      rintro en wx ⟨rfl, rfl⟩
      go_wp2_with fail
      refine (rest_calls _ _ _ _ _ _ _ hg12 (by omega)).mono ?_
      rintro en wx ⟨rfl, rfl⟩
      go_wp2_with fail
      refine (rest_calls _ _ _ _ _ _ _ hf12 (by omega)).mono ?_
      rintro en wx ⟨rfl, rfl⟩
      go_wp2_with fail
      refine (rest_calls _ _ _ _ _ _ _ hh12 (by omega)).mono ?_
      rintro en wx ⟨rfl, rfl⟩
      go_wp2_with fail
      go_ret
      exact ⟨rfl, hkp12⟩

theorem frameCuts_walk (W : World) (a0 : Int) (a1 : Option Addr) (len1 cap1 : Nat) (z1 : List Int) (a2 : Int) (_w0 : (Lit.int .i64 a0).wf = true) (w1 : IsRow .u8 W a1 len1 cap1 z1) (_y1 : len1 * 1 ≤ 140737488351232) (w2 : (Lit.int .u16 a2).wf = true) :
    Calls Try.prog 6 #[.int .i64 a0, .slice a1 len1 cap1, .int .u16 a2] W fun en w' => en = .returned (.bool true) ∧ Below W.heap.size W w' := by
  simp only [Lit.wf, Bool.and_eq_true, decide_eq_true_eq] at w2
  have h1 : 0 ≤ a2 ∧ a2 ≤ 65535 := w2
  obtain ⟨m, rfl⟩ := Int.eq_ofNat_of_zero_le h1.1
  exact (cuts_calls W a0 a1 len1 cap1 _ m w1.bytes_.2.1 w1.bytes_.2.2 w1.cap_le (by omega)).mono fun _ _ ⟨he, hk⟩ => ⟨he, hk.below⟩
end Go.Proofs.Ytccggeliajbfaaa
