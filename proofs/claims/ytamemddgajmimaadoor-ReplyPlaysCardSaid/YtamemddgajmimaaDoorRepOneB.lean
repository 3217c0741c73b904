/- Replies: the reference's One with a body, the comparison of replies with bodies: what they compute. -/
import Derived.Test.YtamemddgajmimaaDoorRepOne
import Derived.Test.YtamemddgajmimaaDoorStuff2
set_option linter.unusedVariables false
set_option linter.unusedSimpArgs false
namespace Go.Proofs.YtamemddgajmimaaDoor
open Go.RowKit Go.Shelf

/-! ### Plain -/
abbrev BodyR := Bool × Int × List UInt8
/-- The steps of a body over lines, none of which but the last one ends or stops. -/
def brunsE : List UInt8 → List (List UInt8) → BodyR → Prop
  | l, [], R => R = (false, 0, l)
  | l, s :: r, R => (∃ l', bodyL 1000 l s = (false, 0, l') ∧ brunsE l' r R) ∨ (r = [] ∧ bodyL 1000 l s = R)
theorem brunsE_go {l s l' : List UInt8} {r : List (List UInt8)} {R : BodyR} (h : brunsE l (s :: r) R) (hs : bodyL 1000 l s = (false, 0, l')) : brunsE l' r R := by
  rcases h with ⟨q', h1, h2⟩ | ⟨rfl, h1⟩
  · rw [hs] at h1
    injection h1 with _ h1
    injection h1 with _ h1
    subst h1
    exact h2
  · rw [hs] at h1
    exact h1.symm
theorem brunsE_stop {l s : List UInt8} {r : List (List UInt8)} {R : BodyR} {a : Bool} {b : Int} {c : List UInt8} (h : brunsE l (s :: r) R) (hs : bodyL 1000 l s = (a, b, c)) (hn : a = true ∨ b ≠ 0) : r = [] ∧ R = (a, b, c) := by
  rcases h with ⟨q', h1, _⟩ | ⟨rfl, h1⟩
  · rw [hs] at h1
    injection h1 with e1 e2
    injection e2 with e2 e3
    subst e1 e2
    rcases hn with h | h
    · cases h
    · exact absurd rfl h
  · exact ⟨rfl, by rw [← h1, hs]⟩
theorem bodyL_cases (l s : List UInt8) : (bodyL 1000 l s = (true, 0, l) ∧ s = [46]) ∨ (bodyL 1000 l s = (false, 72, l) ∧ s ≠ [46]) ∨ ∃ l', bodyL 1000 l s = (false, 0, l') ∧ l'.length ≤ 1000 ∧ s ≠ [46] := by
  unfold bodyL
  by_cases h1 : s = [46]
  · exact .inl ⟨by rw [if_pos h1], h1⟩
  · by_cases h2 : 1000 < l.length + (dropDot s ++ [13, 10]).length
    · exact .inr (.inl ⟨by rw [if_neg h1, if_pos h2], h1⟩)
    · exact .inr (.inr ⟨_, by rw [if_neg h1, if_neg h2], by rw [List.length_append]; omega, h1⟩)

theorem Row.mono2 {w : World} {e : TypeId} {S T : Nat → Prop} {v : Value} {xs : List Value} (h : Row w e S v xs) (hT : ∀ k, OB v k → T k) : Row w e T v xs := ⟨h.1, fun k hk => hT k hk⟩
/-! ### The reference's body -/
def BodOnePost (w : World) (n : Nat) (c : List UInt8) (vr : Value) (R : BodyR) (en : Ending) (w' : World) : Prop :=
  ∃ nx : Nat, (R.1 = true ∨ R.2.1 ≠ 0 → nx = n) ∧ Kept w w' NoB ∧
    ((R.1 = true ∧ ∃ vb, en = .returned (.tuple #[.agg #[.string (strB c), vr, vb], .int .i64 ((nx : Nat) : Int), .bool true, .int .i64 R.2.1]) ∧ Row w' 5 (fun k => w.heap.size ≤ k) vb (b8s R.2.2)) ∨
      (R.1 = false ∧ en = .returned (.tuple #[.agg #[.string ByteArray.empty, .slice none 0 0, .slice none 0 0], .int .i64 ((nx : Nat) : Int), .bool false, .int .i64 R.2.1])))
def OneB (w0 : World) (c : List UInt8) (vr : Value) (R RB q : Nat) (L : List (List UInt8)) (res : BodyR) (gk : Nat) (v11 : Value) (wr : World) : Prop :=
  ∃ (i nn : Nat) (l : List UInt8) (vb : Value), i ≤ L.length ∧ gk = L.length - i ∧ v11 = .int .i64 (i : Int) ∧ brunsE l (L.drop i) res ∧ l.length ≤ 1000 ∧ nn ≤ i ∧
    Blk wr R 30 #[.string ByteArray.empty, .slice none 0 0, .slice none 0 0] ∧ Blk wr RB 30 #[.string (strB c), vr, .slice none 0 0] ∧
    BdR wr 59 q 1000 l nn vb ∧ (∀ k, OB vb k → w0.heap.size ≤ k) ∧ Kept w0 wr NoB
set_option maxHeartbeats 4000000 in
set_option maxRecDepth 100000 in
theorem refBodied_calls (w : World) (S : Nat → Prop) (A : Option Addr) (n cap from_ : Nat) (L : List (List UInt8)) (c : List UInt8) (VA : Option Addr) (vn vc : Nat) (res : BodyR) (hA : Reads w S A n (strs L)) (hn : n ≤ 1000000) (hfr : from_ ≤ n)
    (hel : ∀ x ∈ L, x.length ≤ 1099511627) (hrun : brunsE [] (L.drop from_) res) :
    Calls Tryd.prog 22 #[.agg #[.string (strB c), (.slice VA vn vc), .slice none 0 0], .slice A n cap, .int .i64 (from_ : Int)] w (BodOnePost w n c (.slice VA vn vc) res) := by
  have hln : L.length = n := by have := hA.1; rwa [strs_length] at this
  have HA := Lib.hid hA
  have HLN := Lib.hid hln
  have HEL := Lib.hid hel
  have HRUN := Lib.hid hrun
  clear hA hln hel hrun
  go_enter Tryd.func22, Tryd.ntmps22
  go_wp2_with fail
  refine (refNew_calls _ 1000).mono ?_
  rintro en w1 ⟨rfl, hw1⟩
  have hx0 := ((Blk.new w 30 #[.string (strB c), (.slice VA vn vc), .slice none 0 0]).alloc (.cells #[.string ByteArray.empty, .slice none 0 0, .slice none 0 0] 30)).alloc (.cells #[.slice none 0 0, .int .i64 0, .int .i64 ((1000 : Nat) : Int)] 59)
  have hr0 := (Blk.new (w.alloc (.cells #[.string (strB c), (.slice VA vn vc), .slice none 0 0] 30)) 30 #[.string ByteArray.empty, .slice none 0 0, .slice none 0 0]).alloc (.cells #[.slice none 0 0, .int .i64 0, .int .i64 ((1000 : Nat) : Int)] 59)
  have hb0 := Blk.new ((w.alloc (.cells #[.string (strB c), (.slice VA vn vc), .slice none 0 0] 30)).alloc (.cells #[.string ByteArray.empty, .slice none 0 0, .slice none 0 0] 30)) 59 #[.slice none 0 0, .int .i64 0, .int .i64 ((1000 : Nat) : Int)]
  have hk0 := (((Kept.refl w NoB).alloc (.cells #[.string (strB c), (.slice VA vn vc), .slice none 0 0] 30)).alloc (.cells #[.string ByteArray.empty, .slice none 0 0, .slice none 0 0] 30)).alloc (.cells #[.slice none 0 0, .int .i64 0, .int .i64 ((1000 : Nat) : Int)] 59)
  have ew1 : w1 = ((w.alloc (.cells #[.string (strB c), (.slice VA vn vc), .slice none 0 0] 30)).alloc (.cells #[.string ByteArray.empty, .slice none 0 0, .slice none 0 0] 30)).alloc (.cells #[.slice none 0 0, .int .i64 0, .int .i64 ((1000 : Nat) : Int)] 59) := hw1
  rw [← ew1] at hx0 hr0 hb0 hk0
  simp only [World.size_alloc] at hr0 hb0 ⊢
  have HX0 := Lib.hid hx0
  have HR0 := Lib.hid hr0
  have HB0 := Lib.hid hb0
  have HK0 := Lib.hid hk0
  clear hx0 hr0 hb0 hk0 hw1 ew1
  go_wp2_with fail
  go_loopg [11] (n - from_) (fun gk v11 wr => OneB w c (.slice VA vn vc) (w.heap.size + 1) w.heap.size (w.heap.size + 1 + 1) L res gk v11 wr)
  case atStart => exact ⟨from_, 0, [], .slice none 0 0, by have := HLN.out; omega, by have := HLN.out; omega, rfl, HRUN.out, by simp, Nat.zero_le _, HR0.out, HX0.out, ⟨HB0.out, Row.nil _ _ _⟩, fun k hk => absurd hk ob_nil, HK0.out⟩
  case round =>
    obtain ⟨i, nn, l, vb, hi, hgk, rfl, hrun, hll, hnn, hbR, hbX, hbd, hob, hkr⟩ := hrel
    rw [HLN.out] at hi
    have hlR := hbR.lt
    have hlX := hbX.lt
    have hlQ := hbd.1.lt
    have HG := Lib.hid hgk
    have HR := Lib.hid hbR
    have HX := Lib.hid hbX
    have HBD := Lib.hid hbd
    have HOB := Lib.hid hob
    have HKR := Lib.hid hkr
    clear hgk hbR hbX hbd hob hkr
    rcases Nat.lt_or_ge i n with hlt | hge
    · have hil : i < L.length := by rw [HLN.out]; exact hlt
      obtain ⟨ad, u, hAd, hu, hcell⟩ := (HA.out.kept0 HKR.out).at_ hlt
      subst hAd
      rw [strs_at L i hil] at hu
      injection hu with hu
      subst hu
      rw [drop_cons hil] at hrun
      have hyl := HEL.out L[i] (List.getElem_mem hil)
      obtain ⟨y, hy⟩ : ∃ y, L[i] = y := ⟨_, rfl⟩
      rw [hy] at hcell hyl hrun
      have HRU := Lib.hid hrun
      clear hrun hy
      go_wp2_with fail
      obtain ⟨by1, by2, by3, hby⟩ : ∃ a b c, bodyL 1000 l y = (a, b, c) := ⟨_, _, _, rfl⟩
      have HBY := Lib.hid hby
      refine (refLine_calls _ (w.heap.size + 1 + 1) 1000 l y nn vb (by1, by2, by3) hby HBD.out (by decide) hll (by omega) (by omega)).mono ?_
      rintro en w2 ⟨rfl, vb2, nn2, hnn2, hbd2, hk2, hob2⟩
      have hvR : ¬ (w.heap.size + 1 = w.heap.size + 1 + 1 ∨ OB vb (w.heap.size + 1)) := by
        rintro (e | e)
        · omega
        · exact HBD.out.2.ne_blk HR.out (by decide) e
      have hvX : ¬ (w.heap.size = w.heap.size + 1 + 1 ∨ OB vb w.heap.size) := by
        rintro (e | e)
        · omega
        · exact HBD.out.2.ne_blk HX.out (by decide) e
      have hb1 := HR.out.kept hk2 hvR
      have hb2 := HX.out.kept hk2 hvX
      have hk3 := HKR.out.trans hk2 fun b hb => .inr (by
        rcases hb with rfl | hb
        · omega
        · exact HOB.out _ hb)
      have hob3 : ∀ k, OB vb2 k → w.heap.size ≤ k := fun k hk => (hob2 k hk).elim (HOB.out k) fun h => by have := HKR.out.size; omega
      obtain ⟨r0, r1, r2, q0, q1, q2⟩ := hb1.cells3
      obtain ⟨x0, x1, x2, y0, y1, y2⟩ := hb2.cells3
      obtain ⟨d0, d1, d2, _, _, _⟩ := hbd2.1.cells3
      have hl1 := hb1.lt
      have hl2 := hb2.lt
      have hl3 := hbd2.1.lt
      have HB1 := Lib.hid hb1
      have HB2 := Lib.hid hb2
      have HK3 := Lib.hid hk3
      have HBD2 := Lib.hid hbd2
      have HOB3 := Lib.hid hob3
      obtain ⟨A2, n2, c2, hv2⟩ := hbd2.2.slice
      have hXb : vb2.ownBlock ≠ some w.heap.size := hbd2.2.ne_blk hb2 (by decide)
      have hRb : vb2.ownBlock ≠ some (w.heap.size + 1) := hbd2.2.ne_blk hb1 (by decide)
      have HXB := Lib.hid hXb
      have HRB := Lib.hid hRb
      subst hv2
      clear hk2 hvR hvX hb1 hb2 hk3 hob3 hbd2 hob2 hXb hRb hby
      rcases bodyL_cases l y with ⟨hc, hy46⟩ | ⟨hc, _⟩ | ⟨l', hc, hl', _⟩
      · rw [HBY.out] at hc
        injection hc with e1 e2
        injection e2 with e2 e3
        subst e1 e2 e3
        obtain ⟨hnil, hres⟩ := brunsE_stop HRU.out HBY.out (.inl rfl)
        subst hres
        have hnn := drop_nil_len hil hnil
        have HNN := Lib.hid hnn
        clear hnil hnn hy46 hcell
        go_wp2_with fail
        refine bodyPost_ret (results_cell_row4 rfl _ _ (w.heap.size + 1) 30 _ (0, 0) _ (.int .i64 ((i + 1 : Nat) : Int)) (.bool true) (.int .i64 0) rfl (by first | rfl | exact congrArg (Value.int .i64) (by omega)) rfl rfl ((HB1.out.far (p := ⟨w.heap.size, 2, none⟩) (show ¬ w.heap.size + 1 = w.heap.size by omega) (.slice A2 n2 c2)).set3 (.string (strB c)) (.slice VA vn vc) (.slice A2 n2 c2)) Tryd.underlying30 rfl rp_size) rfl ?_
        exact ⟨i + 1, fun _ => by have := HNN.out; have := HLN.out; omega, (HK3.out.setCell (p := ⟨w.heap.size, 2, none⟩) (.inr (Nat.le_refl _)) _).set3 (.inr (Nat.le_succ _)) _ _ _, .inl ⟨rfl, _, rfl, (HBD2.out.2.mono2 HOB3.out).far (p := ⟨w.heap.size, 2, none⟩) HXB.out _ |>.far3 HRB.out _ _ _⟩⟩
      · rw [HBY.out] at hc
        injection hc with e1 e2
        injection e2 with e2 e3
        subst e1 e2 e3
        obtain ⟨hnil, hres⟩ := brunsE_stop HRU.out HBY.out (.inr (by decide))
        subst hres
        have hnn := drop_nil_len hil hnil
        have HNN := Lib.hid hnn
        clear hnil hnn hcell
        go_wp2_with fail
        refine bodyPost_ret (results_cell_row4 rfl _ _ (w.heap.size + 1) 30 _ (0, 0) _ (.int .i64 ((i + 1 : Nat) : Int)) (.bool false) (.int .i64 72) rfl (by first | rfl | exact congrArg (Value.int .i64) (by omega)) rfl rfl (HB1.out.set3 (.string ByteArray.empty) (.slice none 0 0) (.slice none 0 0)) Tryd.underlying30 rfl rp_size) rfl ?_
        exact ⟨i + 1, fun _ => by have := HNN.out; have := HLN.out; omega, HK3.out.set3 (.inr (Nat.le_succ _)) _ _ _, .inr ⟨rfl, rfl⟩⟩
      · rw [HBY.out] at hc
        injection hc with e1 e2
        injection e2 with e2 e3
        subst e1 e2 e3
        have hrun2 := brunsE_go HRU.out HBY.out
        have HRUN2 := Lib.hid hrun2
        clear hrun2 hcell
        go_wp2_with fail
        go_roundg (n - (i + 1))
        case measure => have := HG.out; have := HLN.out; omega
        case rel => exact ⟨i + 1, nn2, by3, _, by omega, by have := HLN.out; omega, by go_num, HRUN2.out, hl', by omega, HB1.out, HB2.out, HBD2.out, HOB3.out, HK3.out⟩
    · obtain rfl : i = n := by omega
      have hnil : L.drop i = [] := List.drop_eq_nil_iff.2 (by have := HLN.out; omega)
      rw [hnil] at hrun
      have hres : res = (false, 0, l) := hrun
      subst hres
      obtain ⟨r0, r1, r2, q0, q1, q2⟩ := HR.out.cells3
      clear hnil hrun
      go_wp2_with fail
      refine bodyPost_ret (results_cell_row4 rfl _ _ (w.heap.size + 1) 30 _ (0, 0) _ (.int .i64 ((i : Nat) : Int)) (.bool false) (.int .i64 0) rfl rfl rfl rfl (HR.out.set3 (.string ByteArray.empty) (.slice none 0 0) (.slice none 0 0)) Tryd.underlying30 rfl rp_size) rfl ?_
      exact ⟨i, fun _ => rfl, HKR.out.set3 (.inr (Nat.le_succ _)) _ _ _, .inr ⟨rfl, rfl⟩⟩
/-! ### One with a body -/
def OneBPost (w : World) (n : Nat) (t : List UInt8) (R : BodyR) (en : Ending) (w' : World) : Prop :=
  ∃ nx : Nat, (R.1 = true ∨ R.2.1 ≠ 0 → nx = n) ∧ Kept w w' NoB ∧
    ((R.1 = true ∧ ∃ vr vb, en = .returned (.tuple #[.agg #[.string (strB [43]), vr, vb], .int .i64 ((nx : Nat) : Int), .bool true, .int .i64 R.2.1]) ∧ Row w' 9 (fun k => w.heap.size ≤ k) vr (strs [t]) ∧ Row w' 5 (fun k => w.heap.size ≤ k) vb (b8s R.2.2)) ∨
      (R.1 = false ∧ en = .returned (.tuple #[.agg #[.string ByteArray.empty, .slice none 0 0, .slice none 0 0], .int .i64 ((nx : Nat) : Int), .bool false, .int .i64 R.2.1])))
set_option maxHeartbeats 4000000 in
set_option maxRecDepth 100000 in
theorem refOneB_calls (w : World) (p : Int) (S : Nat → Prop) (A : Option Addr) (n cap from_ : Nat) (L : List (List UInt8)) (body : Bool) (t : List UInt8) (res : BodyR) (hA : Reads w S A n (strs L)) (hn : n ≤ 1000000) (hfr : from_ < n) (hfl : from_ < L.length)
    (hel : ∀ x ∈ L, x.length ≤ 1099511627) (hrun : brunsE [] (L.drop (from_ + 1)) res) (hp : p = 2) (hbody : body = true) (hst : statusL 2 L[from_] = some ([43], false, t)) :
    Calls Tryd.prog 13 #[.int .i64 p, .slice A n cap, .int .i64 (from_ : Int), .bool body] w (OneBPost w n t res) := by
  subst hp hbody
  obtain ⟨ad, u, hAd, hu, hcell⟩ := hA.at_ hfr
  subst hAd
  rw [strs_at L from_ hfl] at hu
  injection hu with hu
  subst hu
  have hxl := hel L[from_] (List.getElem_mem hfl)
  obtain ⟨x, hx⟩ : ∃ x, L[from_] = x := ⟨_, rfl⟩
  rw [hx] at hcell hxl hst
  have hcellb : (ad.add from_).block < w.heap.size := World.block_lt_of_cell? w _ hcell
  have HA := Lib.hid hA
  have HEL := Lib.hid hel
  have HRUN := Lib.hid hrun
  have HS := Lib.hid hst
  clear hA hel hrun hst hx
  go_enter Tryd.func13, Tryd.ntmps13
  go_wp2_with fail
  refine (refStatus_at _ 2 x _ _ (by omega) HS.out (stR_mk _ _ _)).mono ?_
  rintro en w1 ⟨rfl, hk1⟩
  have HB1 := Lib.hid ((Blk.new w 30 #[.string ByteArray.empty, .slice none 0 0, .slice none 0 0]).kept0 hk1)
  have HK1 := Lib.hid (((Kept.refl w NoB).alloc (.cells #[.string ByteArray.empty, .slice none 0 0, .slice none 0 0] 30)).trans' hk1)
  obtain ⟨r0, r1, r2, q0, q1, q2⟩ := HB1.out.cells3
  have hltR := HB1.out.lt
  have hc : (([43] : List UInt8) == [43]) = true := rfl
  have hc2 : (strB [43] == (⟨#[43]⟩ : ByteArray)) = true := by rw [show (⟨#[43]⟩ : ByteArray) = strB [43] from rfl, strB_beq]; exact decide_eq_true rfl
  clear hk1 hcell
  go_wp2_with fail
  have hk2 := ((HK1.out.alloc (.cells #[.string (strB [43]), .bool false, .string (strB t)] 54)).alloc (.cells #[.string (strB t)] 9)).alloc (.cells #[.string (strB [43]), .slice (some ⟨w1.heap.size + 1, 0, none⟩) 1 1, .slice none 0 0] 30)
  have hrow := (Row.lit1 (w1.alloc (.cells #[.string (strB [43]), .bool false, .string (strB t)] 54)) 9 (fun k => w.heap.size ≤ k) (.string (strB t)) (by have := HK1.out.size; rw [World.size_alloc]; omega)).alloc (.cells #[.string (strB [43]), .slice (some ⟨w1.heap.size + 1, 0, none⟩) 1 1, .slice none 0 0] 30)
  have hb2 := ((HB1.out.alloc (.cells #[.string (strB [43]), .bool false, .string (strB t)] 54)).alloc (.cells #[.string (strB t)] 9)).alloc (.cells #[.string (strB [43]), .slice (some ⟨w1.heap.size + 1, 0, none⟩) 1 1, .slice none 0 0] 30)
  rw [World.size_alloc] at hrow
  have HK2 := Lib.hid hk2
  have HROW := Lib.hid hrow
  have HB2 := Lib.hid hb2
  clear hk2 hrow hb2 r0 r1 r2 q0 q1 q2
  refine (refBodied_calls _ S (some ad) n cap (from_ + 1) L [43] _ _ _ res (HA.out.kept0 HK2.out) hn (by omega) HEL.out HRUN.out).mono ?_
  rintro en w3 ⟨nx, hnx, hk3, hor⟩
  have HB3 := Lib.hid (HB2.out.kept0 hk3)
  have HROW3 := Lib.hid (HROW.out.kept0 hk3)
  have HK3 := Lib.hid (HK2.out.trans' hk3)
  have HNX := Lib.hid hnx
  obtain ⟨r0, r1, r2, q0, q1, q2⟩ := HB3.out.cells3
  have hlt3 := HB3.out.lt
  have hRn : (Value.slice (some ⟨w1.heap.size + 1, 0, none⟩) 1 1).ownBlock ≠ some w.heap.size := by
    intro e
    have : w1.heap.size + 1 = w.heap.size := by simpa [Value.ownBlock] using e
    omega
  have HRN := Lib.hid hRn
  clear hk3 hnx hRn
  rcases hor with ⟨hr1, vb, rfl, hrb⟩ | ⟨hr1, rfl⟩
  · have HR1 := Lib.hid hr1
    have hrb' : Row w3 5 (fun k => w.heap.size ≤ k) vb (b8s res.2.2) := hrb.mono fun k _ hk => Nat.le_trans HK2.out.size hk
    have hbn : vb.ownBlock ≠ some w.heap.size := hrb.ne_blk HB3.out (by decide)
    have HRB := Lib.hid hrb'
    have HBN := Lib.hid hbn
    obtain ⟨A2, m2, k2, hv2⟩ := hrb.slice
    subst hv2
    obtain ⟨rb, re, rl⟩ := res
    clear hr1 hrb hrb' hbn
    simp only at HR1 HNX HRB ⊢
    go_wp2_with fail
    refine bodyPost_ret (results_cell_row4 rfl _ _ w.heap.size 30 _ (0, 0) _ (.int .i64 ((nx : Nat) : Int)) (.bool true) (.int .i64 re) rfl rfl rfl rfl (HB3.out.set3 (.string (strB [43])) (.slice (some ⟨w1.heap.size + 1, 0, none⟩) 1 1) (.slice A2 m2 k2)) Tryd.underlying30 rfl rp_size) rfl ?_
    exact ⟨nx, HNX.out, HK3.out.set3 (.inr (Nat.le_refl _)) _ _ _, .inl ⟨HR1.out, _, _, rfl, HROW3.out.far3 HRN.out _ _ _, HRB.out.far3 HBN.out _ _ _⟩⟩
  · have HR1 := Lib.hid hr1
    obtain ⟨rb, re, rl⟩ := res
    clear hr1
    simp only at HR1 HNX ⊢
    go_wp2_with fail
    refine bodyPost_ret (results_cell_row4 rfl _ _ w.heap.size 30 _ (0, 0) _ (.int .i64 ((nx : Nat) : Int)) (.bool false) (.int .i64 re) rfl rfl rfl rfl (HB3.out.set3 (.string ByteArray.empty) (.slice none 0 0) (.slice none 0 0)) Tryd.underlying30 rfl rp_size) rfl ?_
    exact ⟨nx, HNX.out, HK3.out.set3 (.inr (Nat.le_refl _)) _ _ _, .inr ⟨HR1.out, rfl⟩⟩
/-! ### The comparison of replies -/
set_option maxHeartbeats 1000000 in
set_option maxRecDepth 100000 in
theorem same11b_calls (w : World) (S T S' T' : Nat → Prop) (A B A' B' : Option Addr) (n k n' k' a b a' b' : Nat) (xs ys : List (List UInt8)) (c d xb yb : List UInt8) (hx : Reads w S A n (strs xs)) (hy : Reads w T B n' (strs ys)) (hxb : Reads w S' A' a (b8s xb)) (hyb : Reads w T' B' b (b8s yb)) (hn : n ≤ 140737488355328) (hn' : n' ≤ 140737488355328) :
    Calls Tryd.prog 14 #[.agg #[.string (strB c), .slice A n k, .slice A' a a'], .agg #[.string (strB d), .slice B n' k', .slice B' b b']] w fun en w' => en = .returned (.bool (decide (xs = ys) && ((c == d) && (xb == yb)))) ∧ Kept w w' NoB := by
  obtain ⟨q, hq⟩ : ∃ q, decide (xs = ys) = q := ⟨_, rfl⟩
  obtain ⟨e, he⟩ : ∃ e, (c == d) = e := ⟨_, rfl⟩
  obtain ⟨f, hf⟩ : ∃ f, (xb == yb) = f := ⟨_, rfl⟩
  rw [hq, he, hf]
  have HQ := Lib.hid hq
  have HX := Lib.hid hx
  have HY := Lib.hid hy
  have HXB := Lib.hid hxb
  have HYB := Lib.hid hyb
  clear hq hx hy hxb hyb
  go_enter Tryd.func14, Tryd.ntmps14
  go_wp2_with fail
  have hk0 := (((Kept.refl w NoB).alloc (.cells #[.string (strB c), .slice A n k, .slice A' a a'] 30)).alloc (.cells #[.string (strB d), .slice B n' k', .slice B' b b'] 30))
  have HK0 := Lib.hid hk0
  have hb1 := ((Blk.new w 30 #[.string (strB c), .slice A n k, .slice A' a a']).alloc (.cells #[.string (strB d), .slice B n' k', .slice B' b b'] 30))
  have hb2 := Blk.new (w.alloc (.cells #[.string (strB c), .slice A n k, .slice A' a a'] 30)) 30 #[.string (strB d), .slice B n' k', .slice B' b b']
  rw [World.size_alloc] at hb2
  have HB1 := Lib.hid hb1
  have HB2 := Lib.hid hb2
  clear hk0 hb1 hb2
  refine (same_calls _ S T A B n k n' k' xs ys (HX.out.kept0 HK0.out) (HY.out.kept0 HK0.out) hn hn').mono ?_
  rw [HQ.out]
  rintro en w1 ⟨rfl, hk1⟩
  have HK1 := Lib.hid (HK0.out.trans' hk1)
  obtain ⟨a0, a1, a2, _, _, _⟩ := (HB1.out.kept0 hk1).cells3
  obtain ⟨b0, b1, b2, _, _, _⟩ := (HB2.out.kept0 hk1).cells3
  have ka := fun (W : World) (h : Kept w W NoB) => (HXB.out.kept0 h).string (P := Tryd.prog) 28 5 9 Tryd.underlying28 Tryd.underlying5 Tryd.underlying9 a'
  have kb := fun (W : World) (h : Kept w W NoB) => (HYB.out.kept0 h).string (P := Tryd.prog) 28 5 9 Tryd.underlying28 Tryd.underlying5 Tryd.underlying9 b'
  have k1 := ka w1 HK1.out
  have k2 := kb w1 HK1.out
  clear hk1 ka kb
  cases q
  · go_wp2_with fail
    go_ret
    exact ⟨rfl, HK1.out⟩
  · cases e
    · go_wp2_with fail
      go_ret
      exact ⟨rfl, HK1.out⟩
    · go_wp2_with fail
      go_ret
      exact ⟨rfl, HK1.out⟩
end Go.Proofs.YtamemddgajmimaaDoor
