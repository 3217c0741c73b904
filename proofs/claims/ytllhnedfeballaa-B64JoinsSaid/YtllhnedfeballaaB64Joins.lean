/- B64Joins' walk. -/
import Derived.Test.YtllhnedfeballaaB64L
set_option linter.unusedVariables false
set_option linter.unusedSimpArgs false
namespace Go.Proofs.Ytllhnedfeballaa
open Go.RowKit

theorem put64_append : ∀ (n : Nat) (a b : List UInt8), a.length = 3 * n → put64 (a ++ b) = put64 a ++ put64 b
  | 0, a, b, h => by
    obtain rfl : a = [] := List.eq_nil_of_length_eq_zero (by omega)
    rw [put64_nil]; rfl
  | n + 1, a, b, h => by
    match a, h with
    | x :: y :: z :: r, h =>
      have hr : r.length = 3 * n := by simp at h; omega
      rw [put64_step (l := x :: y :: z :: r ++ b) (by simp), put64_step (l := x :: y :: z :: r) (by simp)]
      have e1 : min (x :: y :: z :: r ++ b).length 3 = 3 := by simp
      have e2 : min (x :: y :: z :: r).length 3 = 3 := by simp
      rw [e1, e2]
      show _ ++ put64 (r ++ b) = _ ++ put64 r ++ put64 b
      rw [put64_append n r b hr, List.append_assoc]
      rfl
    | [], h => simp at h
    | [_], h => simp at h; omega
    | [_, _], h => simp at h; omega
theorem put64_len : ∀ (n : Nat) (l : List UInt8), l.length ≤ n → (put64 l).length ≤ 4 * l.length
  | 0, l, h => by
    obtain rfl : l = [] := List.eq_nil_of_length_eq_zero (by omega)
    rw [put64_nil]; simp
  | n + 1, l, h => by
    by_cases he : l = []
    · subst he; rw [put64_nil]; simp
    · have hp : 0 < l.length := List.length_pos_iff.2 he
      rw [put64_step he, List.length_append]
      have := put64_len n (l.drop (min l.length 3)) (by rw [List.length_drop]; omega)
      rw [List.length_drop] at this
      simp only [quad, List.length_cons, List.length_nil]
      omega
theorem strB_append (x y : List UInt8) : strB (x ++ y) = strB x ++ strB y := by
  apply ByteArray.ext
  simp [strB]
theorem info_u8 : (Try.prog.info? 5).map (fun i => (i.zero, i.size, i.bytes)) = some (some (.int .u8 0), 1, 1) := by kernel_rfl
theorem b8s_one (l : List UInt8) : ∀ v ∈ b8s l, v.oneCell' = true := by
  intro v hv
  obtain ⟨b, _, rfl⟩ := List.mem_map.1 hv
  rfl

set_option maxHeartbeats 2000000 in
set_option maxRecDepth 100000 in
theorem joins_calls (w : World) (A : Option Addr) (n c : Nat) (l : List UInt8) (hr : Reads w (fun k => k < w.heap.size) A n (b8s l)) (hc : n ≤ c) (A' : Option Addr) (n' c' : Nat) (l' : List UInt8) (hr' : Reads w (fun k => k < w.heap.size) A' n' (b8s l')) (hc' : n' ≤ c') :
    Calls Try.prog 3 #[.slice A n c, .slice A' n' c'] w fun en w' => en = .returned (.bool true) ∧ Kept w w' NoB := by
  go_enter Try.func3, Try.ntmps3
  go_wp2_with fail
  refine (shown_calls _).mono ?_
  rintro en w1 ⟨rfl, hk1⟩
  go_wp2_with fail
  refine (short_calls w1 _ A n c l (hr.kept0 hk1) hc).mono ?_
  rintro en w2 ⟨B, m, d, rfl, rfl, hmd, hm, hrB⟩
  go_wp2_with fail
  refine (short_calls w2 _ A' n' c' l' (hr'.kept0 hk1) hc').mono ?_
  rintro en w3 ⟨B', m', d', rfl, rfl, hmd', hm', hrB'⟩
  have HK1 := Lib.hid hk1
  have HR := Lib.hid hr
  have HR' := Lib.hid hr'
  have HB := Lib.hid hrB
  have HB' := Lib.hid hrB'
  clear hk1 hr hr' hrB hrB'
  have O := Lib.hid b8s_one
  obtain ⟨q, hqq⟩ : ∃ q, m / 3 = q := ⟨_, rfl⟩
  obtain ⟨h3, hh3⟩ : ∃ h3, q * 3 = h3 := ⟨_, rfl⟩
  have hq : (m : Int) / 3 * 3 = (h3 : Int) := by omega
  have hq1 : h3 ≤ m := by omega
  obtain ⟨hi0, hz1, hz0⟩ : ∃ i, Try.prog.info? 5 = some i ∧ i.size = 1 := by
    have : (Try.prog.info? 5).map (·.size) = some 1 := by kernel_rfl
    obtain ⟨i, h1, h2⟩ := Option.map_eq_some_iff.1 this
    exact ⟨i, h1, h2⟩
  obtain ⟨C, hsl, hC⟩ := cut_h (P := Try.prog) 22 5 .i64 Try.underlying22 hz1 hz0 B m d h3 (by omega)
  have HT := hC w3 _ _ hq1 hmd HB.out
  rw [b8s_take] at HT
  have hsl' := hsl w3
  clear hsl hC
  have HT' := Lib.hid HT
  have HQ := Lib.hid (And.intro hqq hh3)
  have hla : ((l.take 600).take h3).length = h3 := by have := HT.1; rwa [b8s_length] at this
  have hlb : (l'.take 600).length = m' := by have := HB'.out.1; rwa [b8s_length] at this
  have HLA := Lib.hid hla
  have HLB := Lib.hid hlb
  clear HT hqq hh3 hla hlb
  obtain ⟨la, hla⟩ : ∃ la, (l.take 600).take h3 = la := ⟨_, rfl⟩
  obtain ⟨lb, hlb⟩ : ∃ lb, l'.take 600 = lb := ⟨_, rfl⟩
  rw [hla] at HT' HLA
  rw [hlb] at HB' HLB
  clear hla hlb HB HR HR'
  have hpa : put64 (la ++ lb) = put64 la ++ put64 lb := put64_append q la lb (by rw [HLA.out, ← HQ.out.2]; omega)
  obtain ⟨sa, hsa⟩ : ∃ s, strB (put64 la) = s := ⟨_, rfl⟩
  obtain ⟨sb, hsb⟩ : ∃ s, strB (put64 lb) = s := ⟨_, rfl⟩
  have hsab : strB (put64 (la ++ lb)) = sa ++ sb := by rw [hpa, strB_append, hsa, hsb]
  have hss : ¬ 9223372036854775807 < sa.size + sb.size := by
    have h1 := put64_len _ la (Nat.le_refl _)
    have h2 := put64_len _ lb (Nat.le_refl _)
    have h3 := HLA.out
    have h4 := HLB.out
    rw [← hsa, ← hsb, strB_size, strB_size]
    omega
  have HSA := Lib.hid hsa
  have HSB := Lib.hid hsb
  have HSAB := Lib.hid hsab
  clear hpa hsa hsb hsab
  go_wp2_with first
    | (at_builtin; refine wpList_appN (W := w3.alloc (.cells #[] 5)) rfl (.tmp 18) (.tmp 19) 22 5 (.int .u8 0) 1 rfl Try.underlying22 info_u8 rfl (by decide) (fun j => w3.heap.size ≤ j) (fun j => j < w.heap.size) (.slice (some ⟨w3.heap.size, 0, none⟩) 0 0) [] (b8s la) C h3 d rfl rfl (O.out _) (Row.made0 _ _ _ (Nat.le_refl _)) (HT'.out.alloc _) (fun j hj => by simp at hj; omega) (by simp; omega) ?_; intro v4 w4 hown4 hk4 hob4; have hk4' : Kept w3 w4 NoB := ((Kept.refl w3 NoB).alloc (.cells #[] 5)).trans hk4 (fun j hj => .inr (Nat.le_of_eq (ob_lit hj))); have hb4 := HB'.out.kept0 hk4')
    | (at_builtin; refine wpList_appN (W := w4) rfl (.tmp 20) (.tmp 21) 22 5 (.int .u8 0) 1 rfl Try.underlying22 info_u8 rfl (by decide) (fun j => w3.heap.size ≤ j) (fun j => j < w.heap.size) v4 ([] ++ b8s la) (b8s lb) B' m' d' rfl rfl (O.out _) hown4 hb4 (fun j hj => Nat.le_trans hk4'.size hj) (by rw [List.nil_append, b8s_length, HLA.out]; omega) ?_; intro v5 w5 hown5 hk5 hob5; have hk5' : Kept w3 w5 NoB := hk4'.trans hk5 (fun j hj => .inr (hown4.2 j hj)); obtain ⟨A5, c5, hv5, hc5, hr5⟩ := hown5.readsN (n := h3 + m') (by rw [List.nil_append, List.length_append, b8s_length, b8s_length, HLA.out, HLB.out]); subst hv5)
    | fail
  rw [List.nil_append, ← b8s_append] at hr5
  refine (put64_any (w1 := w5) hr5 (by omega) hc5 HSAB.out).mono ?_
  rintro en w6 ⟨rfl, hk6⟩
  have hk6' := hk5'.trans' hk6
  go_wp2_with fail
  refine (put64_any (w1 := w6) (HT'.out.kept0 hk6') (by omega) (by omega) HSA.out).mono ?_
  rintro en w7 ⟨rfl, hk7⟩
  have hk7' := hk6'.trans' hk7
  go_wp2_with fail
  refine (put64_any (w1 := w7) (HB'.out.kept0 hk7') (by omega) (by omega) HSB.out).mono ?_
  rintro en w8 ⟨rfl, hk8⟩
  have hk8' := hk7'.trans' hk8
  go_wp2_with fail
  go_ret
  exact ⟨rfl, HK1.out.trans' hk8'⟩

theorem b64Joins_walk (W : World) (a0 : Option Addr) (len0 cap0 : Nat) (z0 : List Int) (a1 : Option Addr) (len1 cap1 : Nat) (z1 : List Int) (w0 : IsRow .u8 W a0 len0 cap0 z0) (_y0 : len0 * 1 ≤ 140737488351232) (w1 : IsRow .u8 W a1 len1 cap1 z1) (_y1 : len1 * 1 ≤ 140737488351232) :
    Calls Try.prog 3 #[.slice a0 len0 cap0, .slice a1 len1 cap1] W fun en w' => en = .returned (.bool true) ∧ Below W.heap.size W w' :=
  (joins_calls W a0 len0 cap0 _ w0.bytes_.2.1 w0.bytes_.2.2 a1 len1 cap1 _ w1.bytes_.2.1 w1.bytes_.2.2).mono fun _ _ ⟨he, hk⟩ => ⟨he, hk.below⟩
end Go.Proofs.Ytllhnedfeballaa
