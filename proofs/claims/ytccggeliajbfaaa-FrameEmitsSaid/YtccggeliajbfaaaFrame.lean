/- The framer: New, Put, Rest, Error, Clone. -/
import Derived.Test.YtccggeliajbfaaaProg
import Derived.Test.YtccggeliajbfaaaW
import Derived.KernelRfl
namespace Go.Proofs.Ytccggeliajbfaaa
open Go.RowKit

/-- What Put makes of bytes, the line so far, whether a CR is there, and an error. -/
def putF (most : Int) : List UInt8 → List UInt8 → Bool → Int → List (List UInt8) × List UInt8 × Bool × Int
  | [], l, cr, e => if e ≠ 0 then ([], [], false, e) else ([], l, cr, e)
  | c :: bs, l, cr, e =>
    if e ≠ 0 then ([], [], false, e)
    else if cr = true ∧ c = 10 then (l :: (putF most bs [] false e).1, (putF most bs [] false e).2)
    else if cr = true ∨ c = 10 then ([], [], false, 60)
    else if c = 13 then putF most bs l true e
    else if most ≤ l.length then ([], [], false, 61)
    else putF most bs (l ++ [c]) cr e


/-- A framer at block g; its line's block is in S. -/
def FrSt (w : World) (S : Nat → Prop) (g : Nat) (l : List UInt8) (cr : Bool) (most e : Int) : Prop :=
  ∃ v, Blk w g 47 #[v, .bool cr, .int .i64 most, .int .i64 e] ∧ Row w 5 S v (b8s l) ∧ S g

def PutJ (w0 : World) (S : Nat → Prop) (g : Nat) (A : Option Addr) (n c : Nat) (bs : List UInt8) (most : Int) (r : List (List UInt8) × List UInt8 × Bool × Int) (m : Nat) (a : Act) (w : World) : Prop :=
  ∃ (k : Nat) (vl : Value) (ls : List (List UInt8)) (l : List UInt8) (cr : Bool) (e : Int) (U : Nat → Value), a = { tmps := #[.pointer (some ⟨g, 0, none⟩), .slice A n c, U 2, U 3, U 4, U 5, vl, .int .i64 k, U 8, U 9, U 10, U 11, U 12, U 13, U 14, U 15, U 16, U 17, U 18, U 19, U 20, U 21, U 22, U 23, U 24, U 25, U 26, U 27, U 28, U 29, U 30, U 31, U 32, U 33, U 34, U 35, U 36, U 37, U 38, U 39, U 40, U 41, U 42, U 43, U 44, U 45, U 46, U 47, U 48, U 49, U 50, U 51, U 52, U 53, U 54, U 55, U 56, U 57, U 58, U 59, U 60, U 61, U 62, U 63, U 64, U 65, U 66, U 67, U 68, U 69, U 70, U 71, U 72, U 73, U 74, U 75, U 76, U 77, U 78, U 79, U 80, U 81, U 82, U 83, U 84, U 85, U 86, U 87, U 88, U 89, U 90, U 91, U 92, U 93, U 94, U 95, U 96, U 97, U 98, U 99, U 100], defers := [] } ∧
    k ≤ n ∧ m = n - k ∧ (l.length + (n - k) ≤ 1099511627776 ∧ ls.length ≤ k) ∧ FrSt w (fun k => S k ∨ w0.heap.size ≤ k) g l cr most e ∧ Row w 9 (fun k => w0.heap.size ≤ k) vl (strs ls) ∧ Kept w0 w S ∧ Reads w (fun k => ¬ S k ∧ k < w0.heap.size) A n (b8s bs) ∧
    r = (ls ++ (putF most (bs.drop k) l cr e).1, (putF most (bs.drop k) l cr e).2)

theorem PutJ.mk_ {w0 : World} {S : Nat → Prop} {g : Nat} {A : Option Addr} {n c : Nat} {bs : List UInt8} {most : Int} {r : List (List UInt8) × List UInt8 × Bool × Int} {w : World} (k : Nat) (vl : Value) (ls : List (List UInt8)) (l : List UInt8) (cr : Bool) (e : Int) {tmps : Array Value}
    (ht : tmps = #[.pointer (some ⟨g, 0, none⟩), .slice A n c, tmps.getD 2 undef, tmps.getD 3 undef, tmps.getD 4 undef, tmps.getD 5 undef, vl, .int .i64 k, tmps.getD 8 undef, tmps.getD 9 undef, tmps.getD 10 undef, tmps.getD 11 undef, tmps.getD 12 undef, tmps.getD 13 undef, tmps.getD 14 undef, tmps.getD 15 undef, tmps.getD 16 undef, tmps.getD 17 undef, tmps.getD 18 undef, tmps.getD 19 undef, tmps.getD 20 undef, tmps.getD 21 undef, tmps.getD 22 undef, tmps.getD 23 undef, tmps.getD 24 undef, tmps.getD 25 undef, tmps.getD 26 undef, tmps.getD 27 undef, tmps.getD 28 undef, tmps.getD 29 undef, tmps.getD 30 undef, tmps.getD 31 undef, tmps.getD 32 undef, tmps.getD 33 undef, tmps.getD 34 undef, tmps.getD 35 undef, tmps.getD 36 undef, tmps.getD 37 undef, tmps.getD 38 undef, tmps.getD 39 undef, tmps.getD 40 undef, tmps.getD 41 undef, tmps.getD 42 undef, tmps.getD 43 undef, tmps.getD 44 undef, tmps.getD 45 undef, tmps.getD 46 undef, tmps.getD 47 undef, tmps.getD 48 undef, tmps.getD 49 undef, tmps.getD 50 undef, tmps.getD 51 undef, tmps.getD 52 undef, tmps.getD 53 undef, tmps.getD 54 undef, tmps.getD 55 undef, tmps.getD 56 undef, tmps.getD 57 undef, tmps.getD 58 undef, tmps.getD 59 undef, tmps.getD 60 undef, tmps.getD 61 undef, tmps.getD 62 undef, tmps.getD 63 undef, tmps.getD 64 undef, tmps.getD 65 undef, tmps.getD 66 undef, tmps.getD 67 undef, tmps.getD 68 undef, tmps.getD 69 undef, tmps.getD 70 undef, tmps.getD 71 undef, tmps.getD 72 undef, tmps.getD 73 undef, tmps.getD 74 undef, tmps.getD 75 undef, tmps.getD 76 undef, tmps.getD 77 undef, tmps.getD 78 undef, tmps.getD 79 undef, tmps.getD 80 undef, tmps.getD 81 undef, tmps.getD 82 undef, tmps.getD 83 undef, tmps.getD 84 undef, tmps.getD 85 undef, tmps.getD 86 undef, tmps.getD 87 undef, tmps.getD 88 undef, tmps.getD 89 undef, tmps.getD 90 undef, tmps.getD 91 undef, tmps.getD 92 undef, tmps.getD 93 undef, tmps.getD 94 undef, tmps.getD 95 undef, tmps.getD 96 undef, tmps.getD 97 undef, tmps.getD 98 undef, tmps.getD 99 undef, tmps.getD 100 undef])
    (hk : k ≤ n) (hin : l.length + (n - k) ≤ 1099511627776 ∧ ls.length ≤ k) (hf : FrSt w (fun k => S k ∨ w0.heap.size ≤ k) g l cr most e) (hv : Row w 9 (fun k => w0.heap.size ≤ k) vl (strs ls)) (hK : Kept w0 w S) (hR : Reads w (fun k => ¬ S k ∧ k < w0.heap.size) A n (b8s bs))
    (hr : r = (ls ++ (putF most (bs.drop k) l cr e).1, (putF most (bs.drop k) l cr e).2)) : PutJ w0 S g A n c bs most r (n - k) { tmps := tmps, defers := [] } w :=
  ⟨k, vl, ls, l, cr, e, fun i => tmps.getD i undef, by rw [← ht], hk, rfl, hin, hf, hv, hK, hR, hr⟩
theorem FrSt.set_e {w : World} {S : Nat → Prop} {g : Nat} {l : List UInt8} {cr : Bool} {most e : Int} (h : FrSt w S g l cr most e) (x : Int) : FrSt (w.setCell ⟨g, 3, none⟩ (.int .i64 x)) S g l cr most x := by
  obtain ⟨v, hb, hr, hg⟩ := h
  exact ⟨v, by simpa using hb.set_ 3 (.int .i64 x), hr.far (hr.ne_blk hb (by decide)) _, hg⟩
theorem FrSt.set_cr {w : World} {S : Nat → Prop} {g : Nat} {l : List UInt8} {cr : Bool} {most e : Int} (h : FrSt w S g l cr most e) (x : Bool) : FrSt (w.setCell ⟨g, 1, none⟩ (.bool x)) S g l x most e := by
  obtain ⟨v, hb, hr, hg⟩ := h
  exact ⟨v, by simpa using hb.set_ 1 (.bool x), hr.far (hr.ne_blk hb (by decide)) _, hg⟩
theorem FrSt.set_line {w : World} {S : Nat → Prop} {g : Nat} {l l' : List UInt8} {cr : Bool} {most e : Int} (h : FrSt w S g l cr most e) {x : Value} (hx : Row w 5 S x (b8s l')) : FrSt (w.setCell ⟨g, 0, none⟩ x) S g l' cr most e := by
  obtain ⟨v, hb, hr, hg⟩ := h
  exact ⟨x, by simpa using hb.set_ 0 x, hx.far (hx.ne_blk hb (by decide)) _, hg⟩
theorem four {w : World} {g : Nat} {t : TypeId} {a b c d : Value} (h : Blk w g t #[a, b, c, d]) : w.cell? ⟨g, 0, none⟩ = some a ∧ w.cell? ⟨g, 1, none⟩ = some b ∧ w.cell? ⟨g, 2, none⟩ = some c ∧ w.cell? ⟨g, 3, none⟩ = some d ∧
    w.frozen? ⟨g, 0, none⟩ = false ∧ w.frozen? ⟨g, 1, none⟩ = false ∧ w.frozen? ⟨g, 3, none⟩ = false := ⟨h.cell 0, h.cell 1, h.cell 2, h.cell 3, h.frozen 0, h.frozen 1, h.frozen 3⟩
theorem FrSt.drewN {w : World} {S : Nat → Prop} {g : Nat} {l : List UInt8} {cr : Bool} {most e : Int} (h : FrSt w S g l cr most e) (n : Nat) : FrSt (w.drewN n) S g l cr most e := h
theorem FrSt.blk {w : World} {S : Nat → Prop} {g : Nat} {l : List UInt8} {cr : Bool} {most e : Int} (h : FrSt w S g l cr most e) : ∃ cs, Blk w g 47 cs ∧ S g := by
  obtain ⟨v, hb, hr, hg⟩ := h
  exact ⟨_, hb, hg⟩
theorem FrSt.kept {w w' : World} {S T : Nat → Prop} {g : Nat} {l : List UInt8} {cr : Bool} {most e : Int} (h : FrSt w S g l cr most e) (k : Kept w w' T) (hn : ∀ b, b < w.heap.size → S b → ¬ T b) : FrSt w' S g l cr most e := by
  obtain ⟨v, hb, hr, hg⟩ := h
  exact ⟨v, hb.kept k (hn g hb.lt hg), hr.kept k hn, hg⟩
/-- What a step of Put did to the state when only the framer's cells were written. -/
theorem putF_err {most : Int} (bs l : List UInt8) (cr : Bool) {e : Int} (h : e ≠ 0) : putF most bs l cr e = ([], [], false, e) := by
  cases bs <;> simp [putF, h]
theorem putF_end {most : Int} (l : List UInt8) (cr : Bool) : putF most [] l cr 0 = ([], l, cr, 0) := by simp [putF]

def PutPost (w0 : World) (S : Nat → Prop) (g : Nat) (most : Int) (r : List (List UInt8) × List UInt8 × Bool × Int) (en : Ending) (w' : World) : Prop :=
  ∃ v, en = .returned (.tuple #[v, .int .i64 r.2.2.2]) ∧ Row w' 9 (fun k => w0.heap.size ≤ k) v (strs r.1) ∧ FrSt w' (fun k => S k ∨ w0.heap.size ≤ k) g r.2.1 r.2.2.1 most r.2.2.2 ∧ Kept w0 w' S

theorem info_u8 : (Try.prog.info? 5).map (fun i => (i.zero, i.size, i.bytes)) = some (some (.int .u8 0), 1, 1) := by kernel_rfl
theorem info_str : (Try.prog.info? 9).map (fun i => (i.zero, i.size, i.bytes)) = some (some (.string ByteArray.empty), 1, 16) := by kernel_rfl

set_option maxHeartbeats 1000000 in
set_option maxRecDepth 100000 in
theorem put_calls (w0 : World) (S : Nat → Prop) (g : Nat) (A : Option Addr) (n c : Nat) (bs l : List UInt8) (cr : Bool) (most e : Int) (hf : FrSt w0 S g l cr most e) (hr : Reads w0 (fun k => ¬ S k) A n (b8s bs)) (hn : l.length + n ≤ 1099511627776) :
    Calls Try.prog 10 #[.pointer (some ⟨g, 0, none⟩), .slice A n c] w0 (PutPost w0 S g most (putF most bs l cr e)) := by
  go_enter Try.func10, Try.ntmps10
  go_wp2
  refine wp_scope_ghost 0 (PutJ w0 S g A n c bs most (putF most bs l cr e)) n rfl ?_ ?_
  · intro K enter
    have enter' := Lib.hid enter
    clear enter
    go_wp2
    go_step3
    rename_i K1 hK1
    refine hK1 _ _ (enter'.out _ _ ⟨0, .slice none 0 0, [], l, cr, e, fun i => if i = 5 then .int .i64 0 else if i = 4 then .slice none 0 0 else undef, ?_⟩)
    obtain ⟨v, hb, hro, hg⟩ := hf
    refine ⟨rfl, by omega, by omega, ⟨by omega, Nat.zero_le _⟩, ⟨v, hb, hro.mono fun k _ h => .inl h, .inl hg⟩, Row.nil _ _ _, Kept.refl _ _, ?_, ?_⟩
    · exact hr.mono fun k hk h => ⟨h, hk⟩
    · simp
  · intro m a w hinv K next
    unfold PutJ at hinv
    obtain ⟨k, vl, ls, l1, cr1, e1, U, ha, hk, hm, hin, hfs, hvl, hkept, hrd, hreq⟩ := hinv
    subst ha
    obtain ⟨hin1, hin2⟩ := hin
    obtain ⟨lv, hb, hrow, hSg⟩ := hfs
    have hm' := Lib.hid hm
    clear hm
    have next' := Lib.hid next
    have hreq' := Lib.hid hreq
    clear next hreq
    have hc0 : w.cell? ⟨g, 0, none⟩ = some lv := by simpa using hb.cell 0
    have hc1 : w.cell? ⟨g, 1, none⟩ = some (.bool cr1) := by simpa using hb.cell 1
    have hc2 : w.cell? ⟨g, 2, none⟩ = some (.int .i64 most) := by simpa using hb.cell 2
    have hc3 : w.cell? ⟨g, 3, none⟩ = some (.int .i64 e1) := by simpa using hb.cell 3
    have hf0 : w.frozen? ⟨g, 0, none⟩ = false := hb.frozen 0
    have hf1 : w.frozen? ⟨g, 1, none⟩ = false := hb.frozen 1
    have hf3 : w.frozen? ⟨g, 3, none⟩ = false := hb.frozen 3
    have hub : ∀ k, k < bs.length → bs.length = n := fun k _ => by have := hrd.1; rw [b8s_length] at this; exact this
    have hlen : bs.length = n := by have := hrd.1; rw [b8s_length] at this; exact this
    have hlen' := Lib.hid hlen
    clear hlen hub
    by_cases he : e1 = 0
    · subst he
      have hbe : ((0 : Int) != 0) = false := rfl
      rcases Nat.lt_or_ge k n with hlt | hge
      · have hbk : ((k : Int) == (n : Int)) = false := by simp; omega
        obtain ⟨ad, u, hA, hu, hcell⟩ := hrd.at_ hlt
        subst hA
        have hkl : k < bs.length := by rw [hlen'.out]; exact hlt
        rw [b8s_at bs k hkl] at hu
        injection hu with hu
        subst hu
        obtain ⟨cb, hcb⟩ : ∃ cb : Nat, bs[k].toNat = cb := ⟨_, rfl⟩
        rw [hcb] at hcell
        have hcb' := Lib.hid hcb
        clear hcb
        obtain ⟨LA, lc, hlv, hlc, hlm⟩ := hrow.shape
        rw [b8s_length] at hlv hlc
        subst hlv
        have hdrop : bs.drop k = bs[k] :: bs.drop (k + 1) := List.drop_eq_getElem_cons hkl
        have hc8 : ∀ x : Nat, x < 256 → (bs[k] = UInt8.ofNat x ↔ cb = x) := by
          intro x hx
          rw [← hcb'.out]
          constructor
          · intro h; rw [h]; simp; omega
          · intro h; rw [← h]; simp
        have h13' := hc8 13 (by omega)
        have h10' := hc8 10 (by omega)
        have D := Lib.hid (And.intro hdrop (And.intro h10' h13'))
        clear hdrop hc8 h13' h10'
        have hfs : FrSt w (fun k => S k ∨ w0.heap.size ≤ k) g l1 cr1 most 0 := ⟨_, hb, hrow, hSg⟩
        have hlt' : n - (k + 1) < m := by have := hm'.out; omega
        by_cases h10 : cb = 10
        · have b10 : ((cb : Int) == 10) = true := by simp [h10]
          have E10 : Hid (cb = 10) := Lib.hid h10
          clear h10
          cases cr1
          · go_wp2
            go_step3
            refine ⟨rfl, next'.out _ _ _ hlt' (PutJ.mk_ (k + 1) vl ls l1 false 60 rfl (by omega) ⟨by omega, by omega⟩ (hfs.set_e 60) (hvl.far (hvl.ne_blk hb (by decide)) _) (hkept.setCell (p := ⟨g, 3, none⟩) hSg _) (hrd.kept ((Kept.refl w (fun k => k = g)).setCell (p := ⟨g, 3, none⟩) (.inl rfl) _) ?_) ?_)⟩
            · rintro b _ ⟨h1, h2⟩ rfl
              rcases hSg with h | h
              · exact h1 h
              · omega
            · rw [hreq'.out, D.out.1, putF_err _ _ _ (e := 60) (by decide)]
              simp [putF, D.out.2.1.2 E10.out]
          · have hcv := hrow.reads'.string 29 5 9 Try.underlying29 Try.underlying5 Try.underlying9 lc
            rw [b8s_length] at hcv
            go_wp2_with (at_builtin; refine wpList_app1 (W := w) rfl _ _ 25 9 (.string ByteArray.empty) 16 rfl Try.underlying25 info_str rfl (by decide) (fun k => w0.heap.size ≤ k) vl (strs ls) (.string (strB l1)) rfl rfl rfl hvl (fun k hk => Nat.le_trans hkept.size hk) (by rw [strs_length]; omega) ?_; intro v1 w1 hown hkp hob; have hb1 := hb.kept hkp (hvl.ne_blk hb (by decide)); obtain ⟨q0, q1, q2, q3, z0, z1, z3⟩ := four hb1)
            go_step3
            have hS1 : (fun k => S k ∨ w0.heap.size ≤ k) g := hSg
            have hfs1 : FrSt ((w1.setCell ⟨g, 0, none⟩ (.slice none 0 0)).setCell ⟨g, 1, none⟩ (.bool false)) (fun k => S k ∨ w0.heap.size ≤ k) g [] false most 0 := by
              have hb2 : Blk (w1.setCell ⟨g, 0, none⟩ (.slice none 0 0)) g 47 #[.slice none 0 0, .bool true, .int .i64 most, .int .i64 0] := by simpa using hb1.set_ 0 (.slice none 0 0)
              exact FrSt.set_cr ⟨_, hb2, Row.nil _ _ _, hS1⟩ false
            refine ⟨rfl, next'.out _ _ _ hlt' (PutJ.mk_ (k + 1) v1 (ls ++ [l1]) [] false 0 rfl (by omega) ⟨by simp; omega, by simp; omega⟩ hfs1 ?_ ?_ ?_ ?_)⟩
            · rw [strs_append]
              exact (hown.far (hown.ne_blk hb1 (by decide)) _).far (hown.ne_blk hb1 (by decide)) _
            · exact ((hkept.trans hkp (fun b hb => .inr (hvl.2 b hb))).setCell (p := ⟨g, 0, none⟩) hSg _).setCell (p := ⟨g, 1, none⟩) hSg _
            · refine hrd.kept ((((Kept.refl w (fun k => k = g ∨ OB vl k)).trans hkp (fun b hb => .inl (.inr hb))).setCell (p := ⟨g, 0, none⟩) (.inl (.inl rfl)) _).setCell (p := ⟨g, 1, none⟩) (.inl (.inl rfl)) _) ?_
              rintro b _ ⟨h1, h2⟩ (rfl | h3)
              · rcases hSg with h | h
                · exact h1 h
                · omega
              · have := hvl.2 b h3
                omega
            · rw [hreq'.out, D.out.1]
              simp [putF, D.out.2.1.2 E10.out]
        · have b10 : ((cb : Int) == 10) = false := by simp; omega
          have E10 : Hid (¬ cb = 10) := Lib.hid h10
          clear h10
          cases cr1
          · by_cases h13 : cb = 13
            · have b13 : ((cb : Int) == 13) = true := by simp; omega
              have E13 : Hid (cb = 13) := Lib.hid h13
              clear h13
              go_wp2
              go_step3
              refine ⟨rfl, next'.out _ _ _ hlt' (PutJ.mk_ (k + 1) vl ls l1 true 0 rfl (by omega) ⟨by omega, by omega⟩ (hfs.set_cr true) (hvl.far (hvl.ne_blk hb (by decide)) _) (hkept.setCell (p := ⟨g, 1, none⟩) hSg _) (hrd.kept ((Kept.refl w (fun k => k = g)).setCell (p := ⟨g, 1, none⟩) (.inl rfl) _) ?_) ?_)⟩
              · rintro b _ ⟨h1, h2⟩ rfl
                rcases hSg with h | h
                · exact h1 h
                · omega
              · rw [hreq'.out, D.out.1]
                have e13 := D.out.2.2.2 E13.out
                have n10 : ¬ bs[k] = 10 := fun h => E10.out (D.out.2.1.1 h)
                simp [putF, e13]
            · have b13 : ((cb : Int) == 13) = false := by simp; omega
              have E13 : Hid (¬ cb = 13) := Lib.hid h13
              clear h13
              have n13 : Hid (¬ bs[k] = 13) := fun h => E13.out (D.out.2.2.1 h)
              have n10 : Hid (¬ bs[k] = 10) := fun h => E10.out (D.out.2.1.1 h)
              by_cases hmo : most ≤ l1.length
              · go_wp2
                go_quiet (fail)
                go_wp2
                go_step3
                refine ⟨rfl, next'.out _ _ _ hlt' (PutJ.mk_ (k + 1) vl ls l1 false 61 rfl (by omega) ⟨by omega, by omega⟩ ((hfs.drewN nq).set_e 61) ((hvl.drewN nq).far (hvl.ne_blk hb (by decide)) _) ((hkept.drewN nq).setCell (p := ⟨g, 3, none⟩) hSg _) ((hrd.drewN nq).kept ((Kept.refl _ (fun k => k = g)).setCell (p := ⟨g, 3, none⟩) (.inl rfl) _) ?_) ?_)⟩
                · rintro b _ ⟨h1, h2⟩ rfl
                  rcases hSg with h | h
                  · exact h1 h
                  · omega
                · rw [hreq'.out, D.out.1, putF_err _ _ _ (e := 61) (by decide)]
                  simp [putF, n10.out, n13.out, hmo]
              · go_wp2
                go_quiet (fail)
                go_wp2_with (at_builtin; refine wpList_app1 (W := w.drewN nq) rfl _ _ 29 5 (.int .u8 0) 1 rfl Try.underlying29 info_u8 rfl (by decide) (fun k => S k ∨ w0.heap.size ≤ k) (.slice LA l1.length lc) (b8s l1) (.int .u8 (cb : Int)) rfl rfl rfl (hrow.drewN nq) (fun k hk => .inr (Nat.le_trans hkept.size hk)) (by rw [b8s_length]; omega) ?_; intro v1 w1 hown hkp hob; obtain ⟨LA1, ln1, lc1, hv1⟩ := hown.slice; subst hv1; have hb1 := (hb.drewN nq).kept hkp (hrow.ne_blk hb (by decide)); obtain ⟨q0, q1, q2, q3, z0, z1, z3⟩ := four hb1)
                go_outline
                go_step3
                have hfs1 : FrSt (w1.setCell ⟨g, 0, none⟩ (.slice LA1 ln1 lc1)) (fun k => S k ∨ w0.heap.size ≤ k) g (l1 ++ [bs[k]]) false most 0 := by
                  have hb2 : Blk (w1.setCell ⟨g, 0, none⟩ (.slice LA1 ln1 lc1)) g 47 #[.slice LA1 ln1 lc1, .bool false, .int .i64 most, .int .i64 0] := by simpa using hb1.set_ 0 (.slice LA1 ln1 lc1)
                  refine ⟨_, hb2, ?_, hSg⟩
                  have hown' : Row w1 5 (fun k => S k ∨ w0.heap.size ≤ k) (.slice LA1 ln1 lc1) (b8s (l1 ++ [bs[k]])) := by
                    rw [b8s_append]
                    have : b8s [bs[k]] = [.int .u8 (cb : Int)] := by rw [← hcb'.out]; rfl
                    rw [this]
                    exact hown
                  exact hown'.far (hown'.ne_blk hb1 (by decide)) _
                refine ⟨rfl, next'.out _ _ _ hlt' (PutJ.mk_ (k + 1) vl ls (l1 ++ [bs[k]]) false 0 rfl (by omega) ⟨by simp; omega, by omega⟩ hfs1 ?_ ?_ ?_ ?_)⟩
                · exact (((hvl.drewN nq).kept_ hkp (hvl.apart hrow (by decide))).far (hvl.ne_blk hb (by decide)) _)
                · exact ((hkept.drewN nq).trans hkp (fun b hb => hrow.2 b hb)).setCell (p := ⟨g, 0, none⟩) hSg _
                · refine (hrd.drewN nq).kept (((Kept.refl _ (fun k => k = g ∨ OB (.slice LA l1.length lc) k)).trans hkp (fun b hb => .inl (.inr hb))).setCell (p := ⟨g, 0, none⟩) (.inl (.inl rfl)) _) ?_
                  rintro b _ ⟨h1, h2⟩ (rfl | h3)
                  · rcases hSg with h | h
                    · exact h1 h
                    · omega
                  · rcases hrow.2 b h3 with h | h
                    · exact h1 h
                    · omega
                · rw [hreq'.out, D.out.1]
                  simp [putF, n10.out, n13.out]
                  rw [if_neg (by omega)]
                  exact ⟨rfl, rfl⟩
          · go_wp2
            go_step3
            refine ⟨rfl, next'.out _ _ _ hlt' (PutJ.mk_ (k + 1) vl ls l1 true 60 rfl (by omega) ⟨by omega, by omega⟩ (hfs.set_e 60) (hvl.far (hvl.ne_blk hb (by decide)) _) (hkept.setCell (p := ⟨g, 3, none⟩) hSg _) (hrd.kept ((Kept.refl w (fun k => k = g)).setCell (p := ⟨g, 3, none⟩) (.inl rfl) _) ?_) ?_)⟩
            · rintro b _ ⟨h1, h2⟩ rfl
              rcases hSg with h | h
              · exact h1 h
              · omega
            · have n10 : ¬ bs[k] = 10 := fun h => E10.out (D.out.2.1.1 h)
              rw [hreq'.out, D.out.1, putF_err _ _ _ (e := 60) (by decide)]
              simp [putF, n10]
      · have hbk : ((k : Int) == (n : Int)) = true := by simp; omega
        go_wp2
        simp only [Exit.jump]
        go_ret2
        have hd : bs.drop k = [] := List.drop_eq_nil_of_le (by rw [hlen'.out]; exact hge)
        have hr1 := hreq'.out
        rw [hd, putF_end, List.append_nil] at hr1
        rw [hr1]
        exact ⟨vl, rfl, hvl, ⟨lv, hb, hrow, hSg⟩, hkept⟩
    · have hbe : (e1 != 0) = true := by simp [he]
      have E0 : Hid (¬ e1 = 0) := Lib.hid he
      clear he
      go_wp2
      go_quiet (fail)
      go_wp2
      simp only [Exit.jump]
      go_ret2
      have hr1 := hreq'.out
      rw [putF_err _ _ _ E0.out, List.append_nil] at hr1
      rw [hr1]
      refine ⟨vl, rfl, ?_, ?_, ?_⟩
      · exact ((hvl.far (hvl.ne_blk hb (by decide)) _).far (hvl.ne_blk hb (by decide)) _).drewN nq
      · exact (((FrSt.set_line ⟨lv, hb, hrow, hSg⟩ (Row.nil _ _ _)).set_cr false).drewN nq)
      · exact ((hkept.setCell (p := ⟨g, 0, none⟩) hSg _).setCell (p := ⟨g, 1, none⟩) hSg _).drewN nq
end Go.Proofs.Ytccggeliajbfaaa
