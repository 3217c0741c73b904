/- The reference's Lines over what the framer makes. -/
import Derived.Test.YtccggeliajbfaaaFrame3
set_option linter.unusedVariables false
set_option linter.unusedSimpArgs false
namespace Go.Proofs.Ytccggeliajbfaaa
open Go.RowKit

theorem putF_lf {M : Int} {c : UInt8} (bs l : List UInt8) (h : c = 10) : putF M (c :: bs) l false 0 = ([], [], false, 60) := by simp [putF, h]
theorem putF_cr {M : Int} {c : UInt8} (bs l : List UInt8) (h : ¬ c = 10) : putF M (c :: bs) l true 0 = ([], [], false, 60) := by simp [putF, h]
theorem putF_emit {M : Int} {c : UInt8} (bs l : List UInt8) (h : c = 10) : putF M (c :: bs) l true 0 = (l :: (putF M bs [] false 0).1, (putF M bs [] false 0).2) := by simp [putF, h]
theorem putF_long {M : Int} {c : UInt8} (bs l : List UInt8) (h : ¬ c = 10) (h' : ¬ c = 13) (hm : M ≤ l.length) : putF M (c :: bs) l false 0 = ([], [], false, 61) := by simp [putF, h, h', hm]
theorem putF_13 {M : Int} {c : UInt8} (bs l : List UInt8) (h : c = 13) : putF M (c :: bs) l false 0 = putF M bs l true 0 := by simp [putF, h]
theorem putF_next {M : Int} {c : UInt8} (bs l : List UInt8) (h : ¬ c = 10) (h' : ¬ c = 13) (hm : ¬ M ≤ l.length) : putF M (c :: bs) l false 0 = putF M bs (l ++ [c]) false 0 := by simp [putF, h, h', hm]

/-- Behind k bytes, the last line begun at f, these lines told: whether a CR stands there, and the line without it. -/
def crAt (bs : List UInt8) (f k : Nat) : Bool := decide (f < k ∧ bs[k - 1]? = some 13)
def lineAt (bs : List UInt8) (f k : Nat) : List UInt8 := (bs.take (if crAt bs f k then k - 1 else k)).drop f
structure LI (M : Int) (bs : List UInt8) (out : List (List UInt8)) (f k : Nat) : Prop where
  le : f ≤ k
  eq : putF M bs [] false 0 = (out ++ (putF M (bs.drop k) (lineAt bs f k) (crAt bs f k) 0).1, (putF M (bs.drop k) (lineAt bs f k) (crAt bs f k) 0).2)
section
variable {M : Int} {bs : List UInt8} {out : List (List UInt8)} {f k : Nat}
theorem drop_at (h : k < bs.length) : bs.drop k = bs[k] :: bs.drop (k + 1) := List.drop_eq_getElem_cons h
theorem crAt_false (h : k < bs.length) (h13 : ¬ bs[k] = 13) : crAt bs f (k + 1) = false := by
  unfold crAt
  simp [List.getElem?_eq_getElem h, h13]
theorem crAt_true (hf : f ≤ k) (h : k < bs.length) (h13 : bs[k] = 13) : crAt bs f (k + 1) = true := by
  unfold crAt
  simp [List.getElem?_eq_getElem h, h13]
  omega
theorem LI.crT {j : Nat} (h : LI M bs out f (j + 1)) (hj : j < bs.length) (hp : f ≤ j ∧ bs[j] = 13) : crAt bs f (j + 1) = true := crAt_true hp.1 hj hp.2
theorem LI.start : LI M bs [] 0 0 := ⟨Nat.le_refl _, by simp [crAt, lineAt]⟩
theorem lineAt_len (hf : f ≤ k) (hk : k ≤ bs.length) (hc : crAt bs f k = false) : (lineAt bs f k).length = k - f := by
  unfold lineAt
  rw [hc]
  simp
  omega
theorem LI.longer (h : LI M bs out f k) (hk : k < bs.length) (hc : crAt bs f k = false) (hl : M < (k : Int) - (f : Int) + 1) : M ≤ (lineAt bs f k).length := by
  rw [lineAt_len h.le (by omega) hc]
  have := h.le
  omega
theorem LI.next13 (h : LI M bs out f k) (hk : k < bs.length) (hc : crAt bs f k = false) (h13 : bs[k] = 13) : LI M bs out f (k + 1) := by
  refine ⟨by have := h.le; omega, ?_⟩
  rw [h.eq, drop_at hk, hc, putF_13 _ _ h13]
  have h1 := crAt_true h.le hk h13
  have h2 : lineAt bs f (k + 1) = lineAt bs f k := by unfold lineAt; rw [h1, hc]; simp
  rw [h1, h2]
theorem LI.next (h : LI M bs out f k) (hk : k < bs.length) (hc : crAt bs f k = false) (h10 : ¬ bs[k] = 10) (h13 : ¬ bs[k] = 13) (hl : ¬ M < (k : Int) - (f : Int) + 1) : LI M bs out f (k + 1) := by
  refine ⟨by have := h.le; omega, ?_⟩
  have hle := h.le
  rw [h.eq, drop_at hk, hc, putF_next _ _ h10 h13 (by rw [lineAt_len hle (by omega) hc]; omega)]
  have h1 := crAt_false (f := f) hk h13
  have h2 : lineAt bs f (k + 1) = lineAt bs f k ++ [bs[k]] := by
    unfold lineAt
    rw [h1, hc]
    simp only [Bool.false_eq_true, if_false]
    rw [List.take_succ_eq_append_getElem hk, List.drop_append_of_le_length (by simp; omega)]
  rw [h1, h2]
theorem LI.emit {j : Nat} (h : LI M bs out f (j + 1)) (hj : j + 1 < bs.length) (hp : f ≤ j ∧ bs[j] = 13) (h10 : bs[j + 1] = 10) : LI M bs (out ++ [(bs.take j).drop f]) (j + 1 + 1) (j + 1 + 1) := by
  refine ⟨Nat.le_refl _, ?_⟩
  have hc := h.crT (by omega) hp
  rw [h.eq, drop_at hj, hc, putF_emit _ _ h10]
  have h1 : crAt bs (j + 1 + 1) (j + 1 + 1) = false := by simp [crAt]
  have h2 : lineAt bs (j + 1 + 1) (j + 1 + 1) = [] := by unfold lineAt; rw [h1]; simp
  have h3 : lineAt bs f (j + 1) = (bs.take j).drop f := by unfold lineAt; rw [hc]; simp
  rw [h1, h2, h3]
  simp
theorem LI.done (h : LI M bs out f k) (hk : k = bs.length) : putF M bs [] false 0 = (out, lineAt bs f k, crAt bs f k, 0) := by
  rw [h.eq, List.drop_eq_nil_of_le (by omega), putF_end]
  simp
theorem LI.rest (h : LI M bs out f k) (hk : k = bs.length) : restF (lineAt bs f k) (crAt bs f k) = (k : Int) - (f : Int) := by
  have hle := h.le
  unfold restF lineAt
  cases hc : crAt bs f k
  · simp; omega
  · have : f < k := by unfold crAt at hc; simp at hc; exact hc.1
    simp
    omega
end

def LinesPost (w0 : World) (r : List (List UInt8) × List UInt8 × Bool × Int) (en : Ending) (w' : World) : Prop :=
  ∃ v, en = .returned (.tuple #[v, .int .i64 r.2.2.2, .int .i64 (restF r.2.1 r.2.2.1)]) ∧ Row w' 9 (fun k => w0.heap.size ≤ k) v (strs r.1) ∧ Kept w0 w' NoB
theorem lines_end {w0 w' : World} {vo : Value} {out : List (List UInt8)} {e : Int} {en : Ending} {r : List (List UInt8) × List UInt8 × Bool × Int} (he : en = .returned (.tuple #[vo, .int .i64 e, .int .i64 0])) (hv : Row w' 9 (fun k => w0.heap.size ≤ k) vo (strs out)) (hk : Kept w0 w' NoB) (hr : r = (out ++ [], [], false, e)) : LinesPost w0 r en w' := by
  subst hr
  exact ⟨vo, he, by simpa using hv, hk⟩

def LinesR (w0 : World) (M : Int) (bs : List UInt8) (n gk : Nat) (vo vf vi : Value) (wr : World) : Prop :=
  ∃ (k f : Nat) (out : List (List UInt8)), k ≤ n ∧ gk = n - k ∧ vf = .int .i64 (f : Int) ∧ vi = .int .i64 (k : Int) ∧ f ≤ k ∧ out.length ≤ k ∧ Row wr 9 (fun k => w0.heap.size ≤ k) vo (strs out) ∧ Kept w0 wr NoB ∧ LI M bs out f k

set_option maxHeartbeats 2000000 in
set_option maxRecDepth 100000 in
theorem lines_calls (w0 : World) (S : Nat → Prop) (A : Option Addr) (n c : Nat) (bs : List UInt8) (most : Int) (hrd0 : Reads w0 S A n (b8s bs)) (hc : n ≤ c) (hn : n ≤ 1099511627776) :
    Calls Try.prog 14 #[.slice A n c, .int .i64 most] w0 (LinesPost w0 (putF (max most 0) bs [] false 0)) := by
  obtain ⟨i0, hi0, hz0, hz1, hz2⟩ := info_parts info_u8
  have hlen : bs.length = n := by have := hrd0.1; rwa [b8s_length] at this
  have HN := Lib.hid hlen
  have HR0 := Lib.hid hrd0
  clear hlen hrd0
  obtain ⟨M, hM⟩ : ∃ M, max most 0 = M := ⟨_, rfl⟩
  rw [hM]
  have hmx : (if most < 0 then 0 else most) = M := by rw [← hM]; omega
  clear hM
  go_enter Try.func14, Try.ntmps14
  go_wp2
  go_loopg [7, 8, 9] n (fun gk v7 v8 v9 wr => LinesR w0 M bs n gk v7 v8 v9 wr)
  case atStart => exact ⟨0, 0, [], Nat.zero_le _, rfl, rfl, rfl, Nat.le_refl _, Nat.zero_le _, Row.made0 _ _ _ (Nat.le_refl _), (Kept.refl _ _).alloc _, LI.start⟩
  case round =>
    obtain ⟨k, f, out, hk, hgk, hv8, hv9, hfk, hol, hvo, hkp, hli⟩ := hrel
    have HG := Lib.hid hgk
    have HL := Lib.hid hli
    clear hgk hli hmx
    have hrd : Reads wr S A n (b8s bs) := HR0.out.kept0 hkp
    rcases Nat.lt_or_ge k n with hlt | hge
    · obtain ⟨ad, u, hA, hu, hcell⟩ := hrd.at_ hlt
      subst hA
      have hkl : k < bs.length := by rw [HN.out]; exact hlt
      rw [b8s_at bs k hkl] at hu
      injection hu with hu
      subst hu
      have HD : Hid (bs.drop k = bs[k] :: bs.drop (k + 1)) := drop_at hkl
      obtain ⟨cb, hcb⟩ : ∃ cb : Nat, bs[k].toNat = cb := ⟨_, rfl⟩
      have HC : Hid (∀ x : Nat, x < 256 → (bs[k] = UInt8.ofNat x ↔ cb = x)) := by
        intro x hx
        rw [← hcb]
        constructor
        · intro h; rw [h]; simp; omega
        · intro h; rw [← h]; simp
      rw [hcb] at hcell
      clear hcb
      rcases Nat.lt_or_ge f k with hfl | hfe
      · obtain ⟨j, rfl⟩ : ∃ j, k = j + 1 := ⟨k - 1, by omega⟩
        rw [show ((j + 1 : Nat) : Int) = (j : Int) + 1 from by omega] at hv9
        subst hv8 hv9
        rw [add_succ_] at hcell
        obtain ⟨ad', u', hA', hu', hcell'⟩ := hrd.at_ (show j < n by omega)
        injection hA' with hA'
        subst hA'
        have hjl : j < bs.length := by omega
        rw [b8s_at bs j hjl] at hu'
        injection hu' with hu'
        subst hu'
        obtain ⟨pb, hpb⟩ : ∃ pb : Nat, bs[j].toNat = pb := ⟨_, rfl⟩
        rw [hpb] at hcell'
        by_cases h13 : pb = 13
        · have p13 : ((pb : Int) == 13) = true := by simp [h13]
          have HP : Hid (f ≤ j ∧ bs[j] = 13) := ⟨by omega, by
            have : bs[j] = UInt8.ofNat 13 := by rw [← h13, ← hpb]; simp
            exact this⟩
          clear hpb h13
          by_cases h10 : cb = 10
          · have b10 : ((cb : Int) == 10) = true := by simp [h10]
            have E10 : Hid (bs[j + 1] = 10) := (HC.out 10 (by omega)).2 h10
            clear h10
            obtain ⟨A', hsl, hA'⟩ := cut_lh (P := Try.prog) 29 5 .i64 .i64 Try.underlying29 hi0 hz1 (some ad) n c f j (by omega) (by omega)
            have hrA := hA' wr _ _ (by omega) hc hrd
            rw [b8s_take, b8s_drop] at hrA
            have hcv := hrA.string 29 5 9 Try.underlying29 Try.underlying5 Try.underlying9 (c - f)
            clear hA' hrA
            have hsl' := hsl wr
            clear hsl
            obtain ⟨ln, hln⟩ : ∃ ln, (bs.take j).drop f = ln := ⟨_, rfl⟩
            rw [hln] at hcv
            have HLn := Lib.hid hln
            clear hln
            go_wp2_with (at_builtin; refine wpList_app1 (W := wr) rfl _ _ 25 9 (.string ByteArray.empty) 16 rfl Try.underlying25 info_str rfl (by decide) (fun k => w0.heap.size ≤ k) u7 (strs out) (.string (strB ln)) rfl rfl rfl hvo (fun k hk => Nat.le_trans hkp.size hk) (by rw [strs_length]; omega) ?_; intro v1 w1 hown hkp1 hob)
            go_roundg (n - (j + 1 + 1))
            case measure => have := HG.out; omega
            case rel =>
              refine ⟨j + 1 + 1, j + 1 + 1, out ++ [ln], by omega, rfl, by go_num, by go_num, by omega, by simp; omega, by rw [strs_append]; exact hown, hkp.trans hkp1 (fun b hb => .inr (hvo.2 b hb)), ?_⟩
              rw [← HLn.out]
              exact HL.out.emit (by have := HN.out; omega) HP.out E10.out
          · have b10 : ((cb : Int) == 10) = false := by simp; omega
            have E10 : Hid (¬ bs[j + 1] = 10) := fun h => h10 ((HC.out 10 (by omega)).1 h)
            clear h10
            go_wp2
            go_ret3
            exact lines_end rfl hvo hkp (by rw [HL.out.eq, HD.out, HL.out.crT (by have := HN.out; omega) HP.out, putF_cr _ _ E10.out])
        · have p13 : ((pb : Int) == 13) = false := by simp; omega
          have hcf : crAt bs f (j + 1) = false := crAt_false hjl (fun h => h13 (by rw [← hpb, h]; rfl))
          have HCF := Lib.hid hcf
          clear hpb h13 hcf
          by_cases h10 : cb = 10
          · have b10 : ((cb : Int) == 10) = true := by simp [h10]
            have E10 := Lib.hid h10
            clear h10
            go_wp2
            go_ret3
            exact lines_end rfl hvo hkp (by rw [HL.out.eq, HD.out, HCF.out, putF_lf _ _ ((HC.out 10 (by omega)).2 E10.out)])
          · have b10 : ((cb : Int) == 10) = false := by simp; omega
            have E10 : Hid (¬ bs[j + 1] = 10) := fun h => h10 ((HC.out 10 (by omega)).1 h)
            clear h10
            by_cases h13 : cb = 13
            · have b13 : ((cb : Int) != 13) = false := by simp; omega
              have b13' : ((cb : Int) == 13) = true := by simp; omega
              have E13 : Hid (bs[j + 1] = 13) := (HC.out 13 (by omega)).2 h13
              clear h13
              go_wp2
              go_roundg (n - ((j + 1) + 1))
              case measure => have := HG.out; omega
              case rel => exact ⟨(j + 1) + 1, f, out, by omega, rfl, rfl, by go_num, by omega, by omega, hvo, hkp, HL.out.next13 (by have := HN.out; omega) HCF.out E13.out⟩
            · have b13 : ((cb : Int) != 13) = true := by simp; omega
              have b13' : ((cb : Int) == 13) = false := by simp; omega
              have E13 : Hid (¬ bs[j + 1] = 13) := fun h => h13 ((HC.out 13 (by omega)).1 h)
              clear h13
              by_cases hlong : M < (j : Int) + 1 - (f : Int) + 1
              · go_wp2
                go_ret3
                exact lines_end rfl hvo hkp (by rw [HL.out.eq, HD.out, HCF.out, putF_long _ _ E10.out E13.out (HL.out.longer (by have := HN.out; omega) HCF.out hlong)])
              · go_wp2
                go_roundg (n - ((j + 1) + 1))
                case measure => have := HG.out; omega
                case rel => exact ⟨(j + 1) + 1, f, out, by omega, rfl, rfl, by go_num, by omega, by omega, hvo, hkp, HL.out.next (by have := HN.out; omega) HCF.out E10.out E13.out (by omega)⟩
      · obtain rfl : f = k := by omega
        subst hv8 hv9
        have HCF : Hid (crAt bs f f = false) := by show crAt bs f f = false; simp [crAt]
        by_cases h10 : cb = 10
        · have b10 : ((cb : Int) == 10) = true := by simp [h10]
          have E10 := Lib.hid h10
          clear h10
          go_wp2
          go_ret3
          exact lines_end rfl hvo hkp (by rw [HL.out.eq, HD.out, HCF.out, putF_lf _ _ ((HC.out 10 (by omega)).2 E10.out)])
        · have b10 : ((cb : Int) == 10) = false := by simp; omega
          have E10 : Hid (¬ bs[f] = 10) := fun h => h10 ((HC.out 10 (by omega)).1 h)
          clear h10
          by_cases h13 : cb = 13
          · have b13 : ((cb : Int) != 13) = false := by simp; omega
            have b13' : ((cb : Int) == 13) = true := by simp; omega
            have E13 : Hid (bs[f] = 13) := (HC.out 13 (by omega)).2 h13
            clear h13
            go_wp2
            go_roundg (n - (f + 1))
            case measure => have := HG.out; omega
            case rel => exact ⟨f + 1, f, out, by omega, rfl, rfl, by go_num, by omega, by omega, hvo, hkp, HL.out.next13 (by have := HN.out; omega) HCF.out E13.out⟩
          · have b13 : ((cb : Int) != 13) = true := by simp; omega
            have b13' : ((cb : Int) == 13) = false := by simp; omega
            have E13 : Hid (¬ bs[f] = 13) := fun h => h13 ((HC.out 13 (by omega)).1 h)
            clear h13
            by_cases hlong : M < (f : Int) - (f : Int) + 1
            · go_wp2
              go_ret3
              exact lines_end rfl hvo hkp (by rw [HL.out.eq, HD.out, HCF.out, putF_long _ _ E10.out E13.out (HL.out.longer (by have := HN.out; omega) HCF.out hlong)])
            · go_wp2
              go_roundg (n - (f + 1))
              case measure => have := HG.out; omega
              case rel => exact ⟨f + 1, f, out, by omega, rfl, rfl, by go_num, by omega, by omega, hvo, hkp, HL.out.next (by have := HN.out; omega) HCF.out E10.out E13.out (by omega)⟩
    · subst hv8 hv9
      have hkn : k = bs.length := by rw [HN.out]; omega
      have HK := Lib.hid hkn
      clear hkn
      go_wp2
      go_ret3
      have hd := HL.out.done HK.out
      have hr := HL.out.rest HK.out
      unfold LinesPost
      rw [hd]
      refine ⟨u7, ?_, hvo, hkp⟩
      simp only
      rw [hr]
      have : (k : Int) = n := by omega
      rw [this]
      rfl
end Go.Proofs.Ytccggeliajbfaaa
