/- Transcripts: entries in memory, a transcript as text: what the program computes. -/
import Derived.Test.YtammhfnolafknaaDoorLogT
import Derived.Lib.ItoaLen
import Derived.Outline
set_option linter.unusedVariables false
set_option linter.unusedSimpArgs false
namespace Go.Proofs.YtammhfnolafknaaDoor
open Go.RowKit Go.Shelf Go.Lib Go.Sort

abbrev Ent := Int × Int × List UInt8
def signC (k : Int) : UInt8 := if k = 1 then 62 else if k = 2 then 60 else if k = 3 then 61 else if k = 4 then 33 else 63
def rowE (e : Ent) : List UInt8 := itoa e.1 ++ 32 :: signC e.2.1 :: 32 :: showL e.2.2
def textL (es : List Ent) : List UInt8 := es.flatMap fun e => rowE e ++ [10]
theorem textL_snoc (es : List Ent) {i : Nat} (h : i < es.length) : textL (es.take (i + 1)) = textL (es.take i) ++ (rowE es[i] ++ [10]) := by
  unfold textL
  rw [List.take_succ_eq_append_getElem h, List.flatMap_append]
  simp
theorem textL_app (a b : List Ent) : textL (a ++ b) = textL a ++ textL b := by unfold textL; rw [List.flatMap_append]
def wfE (M : Nat) (e : Ent) : Prop := -9223372036854775808 ≤ e.1 ∧ e.1 ≤ 9223372036854775807 ∧ -9223372036854775808 ≤ e.2.1 ∧ e.2.1 ≤ 9223372036854775807 ∧ e.2.2.length ≤ M
theorem rowE_len {M : Nat} {e : Ent} (h : wfE M e) : (rowE e ++ [10]).length ≤ 4 * M + 30 := by
  have h1 := itoa_length_le e.1 h.1 h.2.1
  have h2 := showL_len e.2.2
  have h3 := h.2.2.2.2
  unfold rowE
  simp
  omega
theorem textL_len {M : Nat} : ∀ {es : List Ent}, (∀ e ∈ es, wfE M e) → (textL es).length ≤ (4 * M + 30) * es.length
  | [], _ => by simp [textL]
  | e :: es, h => by
    have h1 := rowE_len (h e (by simp))
    have h2 := textL_len (es := es) fun x hx => h x (by simp [hx])
    have : textL (e :: es) = (rowE e ++ [10]) ++ textL es := by simp [textL]
    rw [this, List.length_append, List.length_cons, Nat.mul_succ]
    omega
theorem add_next (a : Addr) (k : Nat) : a.add (k + 1) = ⟨(a.add k).block, (a.add k).off + 1, none⟩ := by
  unfold Addr.add
  by_cases h : k = 0 <;> simp [h]
  omega
/-- The slice value '.slice A n c' holds these entries, in a block of S. -/
def EntR (w : World) (S : Nat → Prop) (A : Option Addr) (n : Nat) (es : List Ent) : Prop :=
  es.length = n ∧ (0 < n → ∃ ad, A = some ad ∧ S ad.block ∧ ad.block < w.heap.size ∧ ∀ i (h : i < es.length), w.cell? (ad.add (i * 3)) = some (.int .i64 es[i].1) ∧ w.cell? ⟨(ad.add (i * 3)).block, (ad.add (i * 3)).off + 1, none⟩ = some (.int .i64 es[i].2.1) ∧ w.cell? ⟨(ad.add (i * 3)).block, (ad.add (i * 3)).off + 2, none⟩ = some (.string (strB es[i].2.2)))
section
variable {w w' : World} {S T : Nat → Prop} {A : Option Addr} {n : Nat} {es : List Ent}
theorem EntR.kept (h : EntR w S A n es) (k : Kept w w' T) (hn : ∀ b, b < w.heap.size → S b → ¬ T b) : EntR w' S A n es :=
  ⟨h.1, fun hp => by
    obtain ⟨ad, e, hs, hl, hc⟩ := h.2 hp
    have hb : ∀ i, (ad.add i).block = ad.block := fun i => block_add ad i
    refine ⟨ad, e, hs, Nat.lt_of_lt_of_le hl k.size, fun i hi => ?_⟩
    obtain ⟨c0, c1, c2⟩ := hc i hi
    exact ⟨k.cell c0 (by rw [hb]; exact hn _ hl hs), k.cell c1 (by show ¬ T (ad.add (i * 3)).block; rw [hb]; exact hn _ hl hs), k.cell c2 (by show ¬ T (ad.add (i * 3)).block; rw [hb]; exact hn _ hl hs)⟩⟩
theorem EntR.kept0 (h : EntR w S A n es) (k : Kept w w' NoB) : EntR w' S A n es := h.kept k fun _ _ _ x => x
theorem EntR.mono (h : EntR w S A n es) (hS : ∀ k, k < w.heap.size → S k → T k) : EntR w T A n es :=
  ⟨h.1, fun hn => by obtain ⟨ad, e, hs, hl, hc⟩ := h.2 hn; exact ⟨ad, e, hS _ hl hs, hl, hc⟩⟩
theorem EntR.at_ (h : EntR w S A n es) {i : Nat} (hi : i < n) (hi' : i < es.length) : ∃ ad, A = some ad ∧ w.cell? (ad.add (i * 3)) = some (.int .i64 es[i].1) ∧ w.cell? ⟨(ad.add (i * 3)).block, (ad.add (i * 3)).off + 1, none⟩ = some (.int .i64 es[i].2.1) ∧ w.cell? ⟨(ad.add (i * 3)).block, (ad.add (i * 3)).off + 2, none⟩ = some (.string (strB es[i].2.2)) := by
  obtain ⟨ad, e, _, _, hc⟩ := h.2 (by omega)
  exact ⟨ad, e, hc i hi'⟩
end
theorem words3_calls (w : World) (a b c : List UInt8) (hl : a.length + b.length + c.length ≤ 1099511627776) :
    Calls Tryd.prog 23 #[.slice (some ⟨w.heap.size, 0, none⟩) 3 3] (w.alloc (.cells #[.string (strB a), .string (strB b), .string (strB c)] 9)) fun en w' => en = .returned (.string (strB (a ++ 32 :: (b ++ 32 :: c)))) ∧ Kept (w.alloc (.cells #[.string (strB a), .string (strB b), .string (strB c)] 9)) w' NoB := by
  have hj : Lib.join ([strB a, strB b, strB c].map (·.data.toList)) ((⟨#[32]⟩ : ByteArray).data.toList) = a ++ 32 :: (b ++ 32 :: c) := by
    simp [Lib.join, strB_toList]
  have h := Any.strings_Join shLays156 bE156 w.heap.size 0 3 [strB a, strB b, strB c] ⟨#[32]⟩ (w.alloc (.cells #[.string (strB a), .string (strB b), .string (strB c)] 9)) (by
    intro j x hj
    rw [Nat.zero_add, World.cell?_alloc_mark]
    match j, hj with
    | 0, hj => simp at hj; subst hj; rfl
    | 1, hj => simp at hj; subst hj; rfl
    | 2, hj => simp at hj; subst hj; rfl) (by simp) (by simp) (by simp) (by rw [hj]; simp; omega)
  rw [hj] at h
  go_enter Tryd.func23, Tryd.ntmps23
  go_wp2_with fail
  refine h.mono ?_
  rintro en w1 ⟨rfl, hb⟩
  have HB := Lib.hid (Kept.of_below hb)
  clear hb h hj
  go_wp2_with fail
  go_ret
  exact ⟨rfl, HB.out⟩

theorem ent_nb {W w' : World} {g b : Nat} {cs : Array Value} (h : Blk W g 35 cs) (k : Kept W w' NoB) (hne : g ≠ b) : ¬ BldS w' b g := by
  rintro (e | ⟨_, cur, fr, h1⟩)
  · exact hne e
  · have h2 := h.kept0 k
    unfold Blk at h2
    rw [h2] at h1
    simp at h1
def TxS (w0 : World) (es : List Ent) (gk : Nat) (v : Value) (wr : World) : Prop :=
  ∃ i, i ≤ es.length ∧ gk = es.length - i ∧ v = .int .i64 (i : Int) ∧ Bld wr w0.heap.size (textL (es.take i)) ∧ Below w0.heap.size w0 wr
theorem sign_cut : ∀ k : Fin 5, (⟨#[63, 62, 60, 61, 33]⟩ : ByteArray).extract k.val (k.val + 1) = strB [if k.val = 0 then 63 else signC k.val] := by decide +kernel
set_option maxHeartbeats 8000000 in
set_option maxRecDepth 100000 in
theorem text_calls (w : World) (S : Nat → Prop) (A : Option Addr) (n c M : Nat) (es : List Ent) (hA : EntR w S A n es) (hn : n ≤ 1024) (hM : M ≤ 1000000) (hwf : ∀ e ∈ es, wfE M e) (hp : PowT w) :
    Calls Tryd.prog 10 #[.slice A n c] w fun en w' => en = .returned (.string (strB (textL es))) ∧ Kept w w' NoB := by
  have hln : es.length = n := hA.1
  have HLN := Lib.hid hln
  have HA := Lib.hid hA
  have HWF := Lib.hid hwf
  have HP := Lib.hid hp
  clear hln hA hwf hp
  go_enter Tryd.func10, Tryd.ntmps10
  go_wp2_with fail
  go_loopg [9] n (fun gk v wr => TxS w es gk v wr)
  case atStart => exact ⟨0, Nat.zero_le _, by rw [HLN.out]; rfl, rfl, Bld.new _, (Below.refl _ _).alloc (Nat.le_refl _) _⟩
  case round =>
    obtain ⟨i, hi, hgk, rfl, hb, hbel⟩ := hrel
    have HG := Lib.hid hgk
    have HB := Lib.hid hb
    have HW := Lib.hid hbel
    have hsz := hbel.size
    have hlen := textL_len (M := M) (es := es.take i) fun e he => HWF.out e (List.mem_of_mem_take he)
    rw [List.length_take] at hlen
    have hlen' : (textL (es.take i)).length ≤ 10000000000 := by
      have h1 : (4 * M + 30) * min i es.length ≤ 4000030 * 1024 := Nat.mul_le_mul (by omega) (by have := HLN.out; omega)
      omega
    rw [HLN.out] at hi
    clear hgk hb hbel hlen
    rcases Nat.lt_or_ge i n with hlt | hge
    · have hil : i < es.length := by rw [HLN.out]; exact hlt
      obtain ⟨ad, hAd, hc0, hc1, hc2⟩ := (HA.out.kept0 (Kept.of_below HW.out)).at_ hlt hil
      subst hAd
      have hs := textL_snoc es hil
      have hwe := HWF.out es[i] (List.getElem_mem hil)
      obtain ⟨e, he⟩ : ∃ e, es[i] = e := ⟨_, rfl⟩
      rw [he] at hs hc0 hc1 hc2 hwe
      obtain ⟨a, k, t⟩ := e
      simp only at hc0 hc1 hc2
      have hrl := rowE_len hwe
      obtain ⟨w0, w1, w2, w3, w4⟩ := hwe
      simp only at w0 w1 w2 w3 w4
      have hit := itoa_length_le a w0 w1
      have hst := showL_len t
      have HS := Lib.hid hs
      have hHP := Lib.hid (HP.out.kept0 (Kept.of_below HW.out))
      obtain ⟨sg, hsg⟩ : ∃ sg, signC k = sg := ⟨_, rfl⟩
      have HSG := Lib.hid hsg
      clear hs he hsg
      have e10 : strB (itoa a ++ 32 :: ([sg] ++ 32 :: showL t)) ++ (⟨#[10]⟩ : ByteArray) = strB (rowE (a, k, t) ++ [10]) := by
        have := strB_app (itoa a ++ 32 :: ([sg] ++ 32 :: showL t)) [10]
        refine this.trans ?_
        unfold rowE
        rw [HSG.out]
        rfl
      have hwl : (itoa a ++ 32 :: ([sg] ++ 32 :: showL t)).length ≤ 10000000 := by simp; omega
      obtain ⟨row, hrow⟩ : ∃ r, rowE (a, k, t) ++ [10] = r := ⟨_, rfl⟩
      rw [hrow] at e10 hrl HS
      obtain ⟨i1, hi1⟩ : ∃ r, itoa a = r := ⟨_, rfl⟩
      obtain ⟨s1, hs1⟩ : ∃ r, showL t = r := ⟨_, rfl⟩
      have HI1 := Lib.hid hi1
      have HS1 := Lib.hid hs1
      rw [hi1] at e10 hwl hit
      rw [hs1] at e10 hwl hst
      obtain ⟨j1, hj1⟩ : ∃ r, i1 ++ 32 :: ([sg] ++ 32 :: s1) = r := ⟨_, rfl⟩
      have HJ1 := Lib.hid hj1
      rw [hj1] at e10 hwl
      have z1 : ¬ (9223372036854775807 < j1.length + 1) := by omega
      have hkk : (1 ≤ k ∧ k ≤ 4) ∨ k < 1 ∨ (1 ≤ k ∧ ¬ k ≤ 4) := by omega
      have hw3 : i1.length + [sg].length + s1.length ≤ 1099511627776 := by
        have := congrArg List.length hj1
        simp at this ⊢
        omega
      clear hrow hi1 hs1 hj1
      rcases hkk with h | h | h
      case' inl =>
        obtain ⟨h1, h2⟩ := h
        have esg : (⟨#[63, 62, 60, 61, 33]⟩ : ByteArray).extract k.toNat (k + 1).toNat = strB [sg] := by
          have hk5 : ∃ m : Fin 5, k = (m.val : Int) ∧ 0 < m.val := ⟨⟨k.toNat, by omega⟩, by show k = (k.toNat : Int); omega, by show 0 < k.toNat; omega⟩
          obtain ⟨m, hm, hm0⟩ := hk5
          have := sign_cut m
          rw [if_neg (by omega), ← hm, HSG.out] at this
          rw [show k.toNat = m.val by omega, show (k + 1).toNat = m.val + 1 by omega]
          exact this
      case' inr.inl =>
        have h1 : ¬ 1 ≤ k := by omega
        have esg : (⟨#[63, 62, 60, 61, 33]⟩ : ByteArray).extract 0 1 = strB [sg] := by
          rw [← HSG.out, signC, if_neg (by omega), if_neg (by omega), if_neg (by omega), if_neg (by omega)]
          exact sign_cut 0
        clear h
      case' inr.inr =>
        obtain ⟨h1, h2⟩ := h
        have esg : (⟨#[63, 62, 60, 61, 33]⟩ : ByteArray).extract 0 1 = strB [sg] := by
          rw [← HSG.out, signC, if_neg (by omega), if_neg (by omega), if_neg (by omega), if_neg (by omega)]
          exact sign_cut 0
      all_goals
        go_wp2_with fail
        have hbk := Blk.new wr 35 #[.int .i64 a, .int .i64 k, .string (strB t)]
        have hkw := (Kept.refl wr NoB).alloc (.cells #[.int .i64 a, .int .i64 k, .string (strB t)] 35)
        generalize wr.alloc (.cells #[.int .i64 a, .int .i64 k, .string (strB t)] 35) = W at hbk hkw ⊢
        have x0 : W.drew.cell? ⟨wr.heap.size, 0, none⟩ = some (.int .i64 a) := by have := hbk.cell 0; exact this
        have x2 : W.drew.cell? ⟨wr.heap.size, 2, none⟩ = some (.string (strB t)) := by have := hbk.cell 2; exact this
        have k0 := (Kept.refl W NoB).drew
        have hbsz := HB.out.lt
        have hneb : wr.heap.size ≠ w.heap.size := by omega
        have HPW := Lib.hid (hHP.out.kept0 hkw)
        have HBW := Lib.hid (HB.out.kept0 hkw)
        have HKW := Lib.hid hkw
        have HBk := Lib.hid hbk
        clear hbk hkw hc0 hc1 hc2
        go_region_held3 (fun w' => w'.cell? ⟨wr.heap.size, 0, none⟩ = some (.int .i64 a) ∧ w'.cell? ⟨wr.heap.size, 2, none⟩ = some (.string (strB t))) (first | exact ⟨x0, x2⟩ | exact ⟨q0, q2⟩ | exact ⟨r0, r2⟩ | exact ⟨((Kept.refl wu NoB).alloc _).cell r0 (fun x => x), ((Kept.refl wu NoB).alloc _).cell r2 (fun x => x)⟩ | exact ⟨v0, v2⟩ | exact ⟨y0, y2⟩ | fail) (first
          | (go_at_call 24; refine (digits_calls _ a w0 w1 (HPW.out.kept0 k0)).mono ?_; rw [HI1.out]; rintro en wq ⟨rfl, hkq⟩; have q0 := hkq.cell x0 (fun x => x); have q2 := hkq.cell x2 (fun x => x); have kq := k0.trans' hkq)
          | (go_at_call 13; refine (shownL_calls _ t (by omega)).mono ?_; rw [HS1.out]; rintro en wu ⟨rfl, hku⟩; have r0 := hku.cell q0 (fun x => x); have r2 := hku.cell q2 (fun x => x); have ku := kq.trans' hku)
          | (go_at_call 23; refine (words3_calls _ i1 [sg] s1 hw3).mono ?_; rw [HJ1.out]; rintro en wv ⟨rfl, hkv⟩; have v0 := hkv.cell (((Kept.refl _ NoB).alloc _).cell r0 (fun x => x)) (fun x => x); have v2 := hkv.cell (((Kept.refl _ NoB).alloc _).cell r2 (fun x => x)) (fun x => x); have kv := (ku.alloc _).trans' hkv)
          | (go_at_call 22; refine (writeString_keep w.heap.size (textL (es.take i)) row _ (HBW.out.kept0 kv) (by omega)).mono ?_; rintro en wz ⟨rfl, hbz, hbw, hkz⟩; have y0 := hkz.cell v0 (ent_nb HBk.out kv hneb); have y2 := hkz.cell v2 (ent_nb HBk.out kv hneb)))
        have HZ := Lib.hid hbz
        have HWZ := Lib.hid ((HW.out.trans (HKW.out.below.mono hsz)).trans (((kv.below.mono (Nat.le_trans hsz HKW.out.size)).trans hbw)))
        clear hbz hbw hkz y0 y2 v0 v2 kv r0 r2 ku q0 q2 kq x0 x2 k0 hkq hku hkv
        go_wp2_with fail
        go_roundg (es.length - (i + 1))
        case measure => have := HG.out; omega
        case rel => exact ⟨i + 1, hil, rfl, by go_num, by rw [HS.out]; exact HZ.out, HWZ.out⟩
    · obtain rfl : i = n := by omega
      have ht : es.take i = es := List.take_of_length_le (by have := HLN.out; omega)
      rw [ht] at HB
      go_wp2_with fail
      refine (bldString_calls w.heap.size _ wr HB.out).mono ?_
      rintro en w2 ⟨rfl, hb2⟩
      have HB2 := Lib.hid (Kept.of_below (HW.out.trans hb2))
      clear hb2
      go_wp2_with fail
      go_ret
      exact ⟨rfl, HB2.out⟩
end Go.Proofs.YtammhfnolafknaaDoor
