/- Replies: a maker's steps without a body: what they compute. -/
import Derived.Test.YtamemddgajmimaaDoorRepM
import Derived.Outline
set_option linter.unusedVariables false
set_option linter.unusedSimpArgs false
namespace Go.Proofs.YtamemddgajmimaaDoor
open Go.RowKit Go.Shelf

theorem stR_mk (c t : List UInt8) (m : Bool) : stR (some (c, m, t)) = .tuple #[.agg #[.string (strB c), .bool m, .string (strB t)], .bool true] := rfl
theorem stR_none : stR none = .tuple #[.agg #[.string ByteArray.empty, .bool false, .string ByteArray.empty], .bool false] := rfl
theorem status_at (w : World) (proto : Int) (s : List UInt8) (r : Option StV) (v : Value) (hl : s.length ≤ 1099511627) (hm : MaxI w) (h : statusL proto s = r) (hv : stR r = v) :
    Calls Tryd.prog 23 #[.int .i64 proto, .string (strB s)] w fun en w' => en = .returned v ∧ Kept w w' NoB := by
  subst h hv
  exact status_calls w proto s hl hm
theorem ne_of_len {W w : World} {g h : Nat} {t : TypeId} {cs : Array Value} (hb : Blk W g t cs) (hk : Kept W w NoB) (e : h = w.heap.size) : g ≠ h := by
  have := hb.lt
  have := hk.size
  omega
set_option maxHeartbeats 1000000 in
set_option maxRecDepth 100000 in
theorem strict_bad (w : World) (g : Nat) (proto : Int) (c s : List UInt8) (v d e f : Value) (hb : Blk w g 51 #[.int .i64 proto, .string (strB c), v, d, e, f]) (hl : s.length ≤ 1099511627) (hm : MaxI w) (h : ∀ m t, statusL proto s ≠ some (c, m, t)) :
    Calls Tryd.prog 24 #[.pointer (some ⟨g, 0, none⟩), .string (strB s)] w fun en w' => en = .returned (.tuple #[.bool false, .int .i64 63]) ∧ Kept w w' NoB := by
  obtain ⟨⟨c0, c1, _, _, _, _⟩, _⟩ := hb.cells6
  have HB := Lib.hid hb
  have HH := Lib.hid h
  clear hb h
  cases hs : statusL proto s with
  | none =>
    have HS := Lib.hid hs
    clear hs
    go_enter Tryd.func24, Tryd.ntmps24
    go_wp2_with fail
    refine (status_at _ proto s _ _ hl hm HS.out stR_none).mono ?_
    rintro en w1 ⟨rfl, hk1⟩
    have HK1 := Lib.hid hk1
    clear hk1 c0 c1
    go_wp2_with fail
    go_quiet (fail)
    go_wp2_with fail
    go_ret2
    exact ⟨rfl, (HK1.out.alloc _).drewN _⟩
  | some x =>
    obtain ⟨c', m, t⟩ := x
    have hne : (c' == c) = false := beq_eq_false_iff_ne.2 fun e => HH.out m t (by rw [hs, e])
    have hne' : (c' != c) = true := by rw [bne, hne]; rfl
    have HS := Lib.hid hs
    clear hs
    go_enter Tryd.func24, Tryd.ntmps24
    go_wp2_with fail
    refine (status_at _ proto s _ _ hl hm HS.out (stR_mk _ _ _)).mono ?_
    rintro en w1 ⟨rfl, hk1⟩
    have HK1 := Lib.hid hk1
    obtain ⟨⟨d0, d1, _, _, _, _⟩, _⟩ := ((HB.out.kept0 hk1).alloc (.cells #[.string (strB c'), .bool m, .string (strB t)] 54)).cells6
    have hne2 := ne_of_len HB.out hk1 rfl
    have hlt := (HB.out.kept0 hk1).lt
    obtain ⟨⟨b0, b1, _, _, _, _⟩, _⟩ := (HB.out.kept0 hk1).cells6
    clear hk1 c0 c1
    go_wp2_with fail
    go_quiet (fail)
    go_wp2_with fail
    go_ret2
    exact ⟨rfl, (HK1.out.alloc _).drewN _⟩
set_option maxHeartbeats 2000000 in
set_option maxRecDepth 100000 in
theorem strict_ok (w : World) (g : Nat) (proto : Int) (c s t : List UInt8) (m : Bool) (v d e f : Value) (ls : List (List UInt8)) (hb : Blk w g 51 #[.int .i64 proto, .string (strB c), v, d, e, f]) (hr : Row w 9 anyB v (strs ls)) (hll : ls.length ≤ 20) (hl : s.length ≤ 1099511627) (hm : MaxI w) (h : statusL proto s = some (c, m, t)) :
    Calls Tryd.prog 24 #[.pointer (some ⟨g, 0, none⟩), .string (strB s)] w fun en w' => ∃ v', en = .returned (.tuple #[.bool (!m), .int .i64 (if 20 ≤ ls.length then 72 else 0)]) ∧ Blk w' g 51 #[.int .i64 proto, .string (strB c), v', d, e, f] ∧ Row w' 9 anyB v' (strs (if 20 ≤ ls.length then ls else ls ++ [t])) ∧ Kept w w' (fun k => k = g ∨ OB v k) ∧ ∀ k, OB v' k → OB v k ∨ w.heap.size ≤ k := by
  obtain ⟨⟨c0, c1, _, _, _, _⟩, _⟩ := hb.cells6
  have HB := Lib.hid hb
  have HR := Lib.hid hr
  have HS := Lib.hid h
  obtain ⟨n, hn⟩ : ∃ n : Int, (if 20 ≤ ls.length then 72 else 0) = n := ⟨_, rfl⟩
  obtain ⟨r, hrr⟩ : ∃ r, (if 20 ≤ ls.length then ls else ls ++ [t]) = r := ⟨_, rfl⟩
  rw [hn, hrr]
  have HN := Lib.hid hn
  have HRR := Lib.hid hrr
  clear hb h hr hn hrr
  go_enter Tryd.func24, Tryd.ntmps24
  go_wp2_with fail
  refine (status_at _ proto s _ _ hl hm HS.out (stR_mk _ _ _)).mono ?_
  rintro en w1 ⟨rfl, hk1⟩
  have HK1 := Lib.hid hk1
  have hne2 := ne_of_len HB.out hk1 rfl
  have hlt := (HB.out.kept0 hk1).lt
  obtain ⟨⟨b0, b1, _, _, _, _⟩, _⟩ := (HB.out.kept0 hk1).cells6
  have HB1 := Lib.hid (HB.out.kept0 hk1)
  have HR1 := Lib.hid (HR.out.kept0 hk1)
  clear hk1 c0 c1
  go_wp2_with fail
  go_quiet (fail)
  go_wp2_with fail
  have hxb := ((Blk.new w1 54 #[.string (strB c), .bool m, .string (strB t)]).drewN nq)
  have hbw := ((HB1.out.alloc (.cells #[.string (strB c), .bool m, .string (strB t)] 54)).drewN nq)
  have hrw := ((HR1.out.alloc (.cells #[.string (strB c), .bool m, .string (strB t)] 54)).drewN nq)
  have hkw := ((HK1.out.alloc (.cells #[.string (strB c), .bool m, .string (strB t)] 54)).drewN nq)
  have hnx : ¬ (w1.heap.size = g ∨ OB v w1.heap.size) := by
    rintro (e | e)
    · omega
    · exact absurd (HR1.out.lt e) (Nat.lt_irrefl _)
  have HNX := Lib.hid hnx
  generalize (w1.alloc (.cells #[.string (strB c), .bool m, .string (strB t)] 54)).drewN nq = W at hxb hbw hrw hkw ⊢
  clear hnx b0 b1
  have x1 : W.drew.cell? ⟨w1.heap.size, 1, none⟩ = some (.bool m) := by have := hxb.cell 1; exact this
  have x2 : W.drew.cell? ⟨w1.heap.size, 2, none⟩ = some (.string (strB t)) := by have := hxb.cell 2; exact this
  have HBW := Lib.hid hbw.drew
  have HRW := Lib.hid hrw.drew
  have HKW := Lib.hid hkw.drew
  clear hxb hbw hrw hkw
  go_region_held3 (fun w' => w'.cell? ⟨w1.heap.size, 1, none⟩ = some (.bool m) ∧ w'.cell? ⟨w1.heap.size, 2, none⟩ = some (.string (strB t))) (first | exact ⟨x1, x2⟩ | exact ⟨q1, q2⟩ | fail) (first
    | (go_at_call 32; refine (add_any _ g _ _ v _ _ _ ls t n r HN.out HRR.out HBW.out HRW.out hll).mono ?_; rintro en wq ⟨rfl, v', hbq, hrq, hkq, hoq⟩; have q1 := hkq.cell x1 HNX.out; have q2 := hkq.cell x2 HNX.out))
  have HBQ := Lib.hid hbq
  have HRQ := Lib.hid hrq
  have HKQ := Lib.hid ((HKW.out.of_no (S := fun k => k = g ∨ OB v k)).trans hkq fun b hb => .inl hb)
  have HKW0 := HKW.out.size
  have HOQ : Hid (∀ k, OB v' k → OB v k ∨ w.heap.size ≤ k) := fun k hk => (hoq k hk).imp id fun h => by omega
  clear hbq hrq hkq hoq q1 q2 x1 x2
  go_wp2_with fail
  go_ret2
  exact ⟨v', rfl, HBQ.out, HRQ.out, HKQ.out, HOQ.out⟩
set_option maxHeartbeats 2000000 in
set_option maxRecDepth 100000 in
theorem loose_last (w : World) (g : Nat) (proto : Int) (c s t : List UInt8) (v d e f : Value) (ls : List (List UInt8)) (hb : Blk w g 51 #[.int .i64 proto, .string (strB c), v, d, e, f]) (hr : Row w 9 anyB v (strs ls)) (hll : ls.length ≤ 20) (hl : s.length ≤ 1099511627) (hm : MaxI w) (h : statusL proto s = some (c, false, t)) :
    Calls Tryd.prog 25 #[.pointer (some ⟨g, 0, none⟩), .string (strB s)] w fun en w' => ∃ v', en = .returned (.tuple #[.bool true, .int .i64 (if 20 ≤ ls.length then 72 else 0)]) ∧ Blk w' g 51 #[.int .i64 proto, .string (strB c), v', d, e, f] ∧ Row w' 9 anyB v' (strs (if 20 ≤ ls.length then ls else ls ++ [t])) ∧ Kept w w' (fun k => k = g ∨ OB v k) ∧ ∀ k, OB v' k → OB v k ∨ w.heap.size ≤ k := by
  obtain ⟨⟨c0, c1, _, _, _, _⟩, _⟩ := hb.cells6
  have HB := Lib.hid hb
  have HR := Lib.hid hr
  have HS := Lib.hid h
  obtain ⟨n, hn⟩ : ∃ n : Int, (if 20 ≤ ls.length then 72 else 0) = n := ⟨_, rfl⟩
  obtain ⟨r, hrr⟩ : ∃ r, (if 20 ≤ ls.length then ls else ls ++ [t]) = r := ⟨_, rfl⟩
  rw [hn, hrr]
  have HN := Lib.hid hn
  have HRR := Lib.hid hrr
  clear hb h hr hn hrr
  go_enter Tryd.func25, Tryd.ntmps25
  go_wp2_with fail
  refine (status_at _ proto s _ _ hl hm HS.out (stR_mk _ _ _)).mono ?_
  rintro en w1 ⟨rfl, hk1⟩
  have HK1 := Lib.hid hk1
  have hne2 := ne_of_len HB.out hk1 rfl
  have hlt := (HB.out.kept0 hk1).lt
  obtain ⟨⟨b0, b1, _, _, _, _⟩, _⟩ := (HB.out.kept0 hk1).cells6
  have HB1 := Lib.hid (HB.out.kept0 hk1)
  have HR1 := Lib.hid (HR.out.kept0 hk1)
  clear hk1 c0 c1
  go_wp2_with fail
  go_quiet (fail)
  have hxb := ((Blk.new w1 54 #[.string (strB c), .bool false, .string (strB t)]).drewN nq)
  have hbw := ((HB1.out.alloc (.cells #[.string (strB c), .bool false, .string (strB t)] 54)).drewN nq)
  have hrw := ((HR1.out.alloc (.cells #[.string (strB c), .bool false, .string (strB t)] 54)).drewN nq)
  have hkw := ((HK1.out.alloc (.cells #[.string (strB c), .bool false, .string (strB t)] 54)).drewN nq)
  have hnx : ¬ (w1.heap.size = g ∨ OB v w1.heap.size) := by
    rintro (e | e)
    · omega
    · exact absurd (HR1.out.lt e) (Nat.lt_irrefl _)
  have HNX := Lib.hid hnx
  generalize (w1.alloc (.cells #[.string (strB c), .bool false, .string (strB t)] 54)).drewN nq = W at hxb hbw hrw hkw ⊢
  clear hnx b0 b1
  have x2 : W.cell? ⟨w1.heap.size, 2, none⟩ = some (.string (strB t)) := by have := hxb.cell 2; exact this
  have HBW := Lib.hid hbw
  have HRW := Lib.hid hrw
  have HKW := Lib.hid hkw
  clear hxb hbw hrw hkw
  go_wp2_with fail
  refine (add_any _ g _ _ v _ _ _ ls t n r HN.out HRR.out HBW.out HRW.out hll).mono ?_
  rintro en wq ⟨rfl, v', hbq, hrq, hkq, hoq⟩
  have HBQ := Lib.hid hbq
  have HRQ := Lib.hid hrq
  have HKQ := Lib.hid ((HKW.out.of_no (S := fun k => k = g ∨ OB v k)).trans hkq fun b hb => .inl hb)
  have HKW0 := HKW.out.size
  have HOQ : Hid (∀ k, OB v' k → OB v k ∨ w.heap.size ≤ k) := fun k hk => (hoq k hk).imp id fun h => by omega
  clear hbq hrq hkq hoq x2
  go_wp2_with fail
  go_ret2
  exact ⟨v', rfl, HBQ.out, HRQ.out, HKQ.out, HOQ.out⟩

/-- A line of Ftp that is not the last one. -/
theorem lastF_none {proto : Int} {c s : List UInt8} (h : lastF proto c s = none) : statusL proto s = none ∨ ∃ c' m t, statusL proto s = some (c', m, t) ∧ (c' ≠ c ∨ m = true) := by
  unfold lastF at h
  cases hs : statusL proto s with
  | none => exact .inl rfl
  | some x =>
    obtain ⟨c', m, t⟩ := x
    rw [hs] at h
    refine .inr ⟨c', m, t, rfl, ?_⟩
    cases m with
    | true => exact .inr rfl
    | false =>
      simp only at h
      split at h
      · cases h
      · exact .inl ‹_›
theorem lastF_some {proto : Int} {c s t : List UInt8} (h : lastF proto c s = some t) : statusL proto s = some (c, false, t) := by
  unfold lastF at h
  cases hs : statusL proto s with
  | none => rw [hs] at h; cases h
  | some x =>
    obtain ⟨c', m, t'⟩ := x
    rw [hs] at h
    cases m with
    | true => cases h
    | false =>
      simp only at h
      split at h
      · rename_i e
        subst e
        injection h with h
        rw [h]
      · cases h
set_option maxHeartbeats 2000000 in
set_option maxRecDepth 100000 in
theorem loose_more (w : World) (g : Nat) (proto : Int) (c s : List UInt8) (v d e f : Value) (ls : List (List UInt8)) (hb : Blk w g 51 #[.int .i64 proto, .string (strB c), v, d, e, f]) (hr : Row w 9 anyB v (strs ls)) (hll : ls.length ≤ 20) (hl : s.length ≤ 1099511627) (hm : MaxI w) (h : lastF proto c s = none) :
    Calls Tryd.prog 25 #[.pointer (some ⟨g, 0, none⟩), .string (strB s)] w fun en w' => ∃ v', en = .returned (.tuple #[.bool false, .int .i64 (if 20 ≤ ls.length then 72 else 0)]) ∧ Blk w' g 51 #[.int .i64 proto, .string (strB c), v', d, e, f] ∧ Row w' 9 anyB v' (strs (if 20 ≤ ls.length then ls else ls ++ [s])) ∧ Kept w w' (fun k => k = g ∨ OB v k) ∧ ∀ k, OB v' k → OB v k ∨ w.heap.size ≤ k := by
  obtain ⟨⟨c0, c1, _, _, _, _⟩, _⟩ := hb.cells6
  have HB := Lib.hid hb
  have HR := Lib.hid hr
  obtain ⟨n, hn⟩ : ∃ n : Int, (if 20 ≤ ls.length then 72 else 0) = n := ⟨_, rfl⟩
  obtain ⟨r, hrr⟩ : ∃ r, (if 20 ≤ ls.length then ls else ls ++ [s]) = r := ⟨_, rfl⟩
  rw [hn, hrr]
  have HN := Lib.hid hn
  have HRR := Lib.hid hrr
  have hcase := lastF_none h
  clear hb h hr hn hrr
  rcases hcase with hs | ⟨c', m, t, hs, hor⟩
  · have HS := Lib.hid hs
    clear hs
    go_enter Tryd.func25, Tryd.ntmps25
    go_wp2_with fail
    refine (status_at _ proto s _ _ hl hm HS.out stR_none).mono ?_
    rintro en w1 ⟨rfl, hk1⟩
    have HK1 := Lib.hid hk1
    have HB1 := Lib.hid (HB.out.kept0 hk1)
    have HR1 := Lib.hid (HR.out.kept0 hk1)
    clear hk1 c0 c1
    go_wp2_with fail
    go_quiet (fail)
    have hbw := ((HB1.out.alloc (.cells #[.string ByteArray.empty, .bool false, .string ByteArray.empty] 54)).drewN nq)
    have hrw := ((HR1.out.alloc (.cells #[.string ByteArray.empty, .bool false, .string ByteArray.empty] 54)).drewN nq)
    have hkw := ((HK1.out.alloc (.cells #[.string ByteArray.empty, .bool false, .string ByteArray.empty] 54)).drewN nq)
    generalize (w1.alloc (.cells #[.string ByteArray.empty, .bool false, .string ByteArray.empty] 54)).drewN nq = W at hbw hrw hkw ⊢
    have HBW := Lib.hid hbw
    have HRW := Lib.hid hrw
    have HKW := Lib.hid hkw
    clear hbw hrw hkw
    go_wp2_with fail
    refine (add_any _ g _ _ v _ _ _ ls s n r HN.out HRR.out HBW.out HRW.out hll).mono ?_
    rintro en wq ⟨rfl, v', hbq, hrq, hkq, hoq⟩
    have HBQ := Lib.hid hbq
    have HRQ := Lib.hid hrq
    have HKQ := Lib.hid ((HKW.out.of_no (S := fun k => k = g ∨ OB v k)).trans hkq fun b hb => .inl hb)
    have HKW0 := HKW.out.size
    have HOQ : Hid (∀ k, OB v' k → OB v k ∨ w.heap.size ≤ k) := fun k hk => (hoq k hk).imp id fun h => by omega
    clear hbq hrq hkq hoq
    go_wp2_with fail
    go_ret2
    exact ⟨v', rfl, HBQ.out, HRQ.out, HKQ.out, HOQ.out⟩
  · have HS := Lib.hid hs
    have hor' : (c' == c) = false ∨ ((c' == c) = true ∧ m = true) := by
      cases hcc : c' == c with
      | false => exact .inl rfl
      | true =>
        rcases hor with h | h
        · exact absurd (beq_iff_eq.1 hcc) h
        · exact .inr ⟨rfl, h⟩
    clear hs hor
    go_enter Tryd.func25, Tryd.ntmps25
    go_wp2_with fail
    refine (status_at _ proto s _ _ hl hm HS.out (stR_mk _ _ _)).mono ?_
    rintro en w1 ⟨rfl, hk1⟩
    have HK1 := Lib.hid hk1
    have hne2 := ne_of_len HB.out hk1 rfl
    have hlt := (HB.out.kept0 hk1).lt
    obtain ⟨⟨b0, b1, _, _, _, _⟩, _⟩ := (HB.out.kept0 hk1).cells6
    have HB1 := Lib.hid (HB.out.kept0 hk1)
    have HR1 := Lib.hid (HR.out.kept0 hk1)
    clear hk1 c0 c1
    have hor2 : (c' == c) = false ∨ ((c' == c) = true ∧ (!m) = false) := hor'.imp id fun h => ⟨h.1, by rw [h.2]; rfl⟩
    clear hor'
    rcases hor2 with hcc | ⟨hcc, hmm⟩
    all_goals
      go_wp2_with fail
      go_quiet (fail)
      have hbw := ((HB1.out.alloc (.cells #[.string (strB c'), .bool m, .string (strB t)] 54)).drewN nq)
      have hrw := ((HR1.out.alloc (.cells #[.string (strB c'), .bool m, .string (strB t)] 54)).drewN nq)
      have hkw := ((HK1.out.alloc (.cells #[.string (strB c'), .bool m, .string (strB t)] 54)).drewN nq)
      generalize (w1.alloc (.cells #[.string (strB c'), .bool m, .string (strB t)] 54)).drewN nq = W at hbw hrw hkw ⊢
      have HBW := Lib.hid hbw
      have HRW := Lib.hid hrw
      have HKW := Lib.hid hkw
      clear hbw hrw hkw b0 b1
      go_wp2_with fail
      refine (add_any _ g _ _ v _ _ _ ls s n r HN.out HRR.out HBW.out HRW.out hll).mono ?_
      rintro en wq ⟨rfl, v', hbq, hrq, hkq, hoq⟩
      have HBQ := Lib.hid hbq
      have HRQ := Lib.hid hrq
      have HKQ := Lib.hid ((HKW.out.of_no (S := fun k => k = g ∨ OB v k)).trans hkq fun b hb => .inl hb)
      have HKW0 := HKW.out.size
      have HOQ : Hid (∀ k, OB v' k → OB v k ∨ w.heap.size ≤ k) := fun k hk => (hoq k hk).imp id fun h => by omega
      clear hbq hrq hkq hoq
      go_wp2_with fail
      go_ret2
      exact ⟨v', rfl, HBQ.out, HRQ.out, HKQ.out, HOQ.out⟩
end Go.Proofs.YtamemddgajmimaaDoor
