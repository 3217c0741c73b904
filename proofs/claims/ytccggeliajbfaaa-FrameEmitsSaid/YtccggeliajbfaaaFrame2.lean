/- The framer's small methods, and the example. -/
import Derived.Test.YtccggeliajbfaaaFrame
namespace Go.Proofs.Ytccggeliajbfaaa
open Go.RowKit

/-- A framer whose footprint lies in the world. -/
def Fr (w : World) (F : Nat → Prop) (g : Nat) (l : List UInt8) (cr : Bool) (most e : Int) : Prop := FrSt w F g l cr most e ∧ ∀ k, F k → k < w.heap.size
section
variable {w w' : World} {F T : Nat → Prop} {g : Nat} {l : List UInt8} {cr : Bool} {most e : Int}
theorem Fr.kept (h : Fr w F g l cr most e) (k : Kept w w' T) (hn : ∀ b, F b → ¬ T b) : Fr w' F g l cr most e :=
  ⟨h.1.kept k fun b _ hb => hn b hb, fun b hb => Nat.lt_of_lt_of_le (h.2 b hb) k.size⟩
theorem Fr.kept0 (h : Fr w F g l cr most e) (k : Kept w w' NoB) : Fr w' F g l cr most e := h.kept k fun _ _ x => x
theorem Fr.drewN (h : Fr w F g l cr most e) (n : Nat) : Fr (w.drewN n) F g l cr most e := h
theorem Fr.alloc (h : Fr w F g l cr most e) (o : Obj) : Fr (w.alloc o) F g l cr most e := h.kept0 ((Kept.refl w NoB).alloc o)
end

def NewPost (w0 : World) (most : Int) (en : Ending) (w' : World) : Prop :=
  ∃ g F, en = .returned (.pointer (some ⟨g, 0, none⟩)) ∧ Fr w' F g [] false (max most 0) 0 ∧ (∀ k, F k → w0.heap.size ≤ k) ∧ Kept w0 w' NoB
theorem new_calls (most : Int) (w : World) : Calls Try.prog 9 #[.int .i64 most] w (NewPost w most) := by
  go_enter Try.func9, Try.ntmps9
  rcases Int.lt_or_le most 0 with h | h
  · have hm : Hid (max most 0 = 0) := by show max most 0 = 0; omega
    go_wp2
    go_ret
    unfold NewPost
    rw [hm.out]
    exact ⟨w.heap.size, fun k => k = w.heap.size, rfl, ⟨⟨_, Blk.new _ _ _, Row.nil _ _ _, rfl⟩, fun k hk => by rw [hk]; simp⟩, fun k hk => by rw [hk]; omega, (Kept.refl _ _).alloc _⟩
  · have hm : Hid (max most 0 = most) := by show max most 0 = most; omega
    go_wp2
    go_ret
    unfold NewPost
    rw [hm.out]
    exact ⟨w.heap.size, fun k => k = w.heap.size, rfl, ⟨⟨_, Blk.new _ _ _, Row.nil _ _ _, rfl⟩, fun k hk => by rw [hk]; simp⟩, fun k hk => by rw [hk]; omega, (Kept.refl _ _).alloc _⟩

def PPost (w0 : World) (F : Nat → Prop) (g : Nat) (most : Int) (ls : List (List UInt8)) (l : List UInt8) (cr : Bool) (e : Int) (en : Ending) (w' : World) : Prop :=
  ∃ v F', en = .returned (.tuple #[v, .int .i64 e]) ∧ Row w' 9 (fun k => w0.heap.size ≤ k) v (strs ls) ∧ Fr w' F' g l cr most e ∧ (∀ k, F' k → (F k ∨ w0.heap.size ≤ k) ∧ ¬ OB v k) ∧ Kept w0 w' F
theorem put_any {w0 : World} {F : Nat → Prop} {g : Nat} {A : Option Addr} {n c : Nat} {bs l : List UInt8} {cr : Bool} {most e : Int} (hf : Fr w0 F g l cr most e) (hr : Reads w0 (fun k => ¬ F k) A n (b8s bs)) (hn : l.length + n ≤ 1099511627776)
    {ls : List (List UInt8)} {l' : List UInt8} {cr' : Bool} {e' : Int} (hp : putF most bs l cr e = (ls, l', cr', e')) :
    Calls Try.prog 10 #[.pointer (some ⟨g, 0, none⟩), .slice A n c] w0 (PPost w0 F g most ls l' cr' e') := by
  have h := put_calls w0 F g A n c bs l cr most e hf.1 hr hn
  rw [hp] at h
  refine h.mono ?_
  rintro en w' ⟨v, he, hv, ⟨lv, hb, hrow, hS⟩, hk⟩
  refine ⟨v, fun k => k = g ∨ OB lv k, he, hv, ⟨⟨lv, hb, ⟨hrow.1, fun k h => .inr h⟩, .inl rfl⟩, ?_⟩, ?_, hk⟩
  · rintro k (rfl | h)
    · exact hb.lt
    · exact hrow.lt h
  · rintro k (rfl | h)
    · exact ⟨hS, hv.ne_blk hb (by decide)⟩
    · exact ⟨hrow.2 k h, fun h' => hv.apart hrow (by decide) k h' h⟩
/-- Put of bytes that are written where Put is called. -/
theorem put_lit {w1 : World} {F : Nat → Prop} {g : Nat} {bs l : List UInt8} {cr : Bool} {most e : Int} (hf : Fr w1 F g l cr most e) {C : Array Value} {fr : Nat × Nat} (hC : C = (b8s bs).toArray) (n c : Nat) (hbn : bs.length = n) (hn : l.length + n ≤ 1099511627776)
    {ls : List (List UInt8)} {l' : List UInt8} {cr' : Bool} {e' : Int} (hp : putF most bs l cr e = (ls, l', cr', e')) :
    Calls Try.prog 10 #[.pointer (some ⟨g, 0, none⟩), .slice (some ⟨w1.heap.size, 0, none⟩) n c] (w1.alloc (.cells C 5 fr)) (PPost w1 F g most ls l' cr' e') := by
  subst hbn
  refine (put_any (hf.alloc _) ((Reads.bytes w1 _ bs C hC fr).mono fun k _ h hk => absurd (hf.2 k hk) (by omega)) hn hp).mono ?_
  rintro en w' ⟨v, F', he, hv, hf', hF', hk⟩
  refine ⟨v, F', he, hv.mono fun k _ h => ?_, hf', fun k h => ?_, ((Kept.refl w1 F).alloc _).trans hk fun b hb => .inl hb⟩
  · simp at h; omega
  · have := hF' k h
    simp at this
    exact ⟨this.1.imp id (by omega), this.2⟩

def restF (l : List UInt8) (cr : Bool) : Int := if cr then l.length + 1 else l.length
theorem rest_calls (w : World) (F : Nat → Prop) (g : Nat) (l : List UInt8) (cr : Bool) (most e : Int) (hf : Fr w F g l cr most e) (hl : l.length ≤ 1099511627776) :
    Calls Try.prog 11 #[.pointer (some ⟨g, 0, none⟩)] w fun en w' => en = .returned (.int .i64 (restF l cr)) ∧ w = w' := by
  obtain ⟨⟨v, hb, hr, _⟩, _⟩ := hf
  obtain ⟨A, n, c, rfl⟩ := hr.slice
  obtain ⟨A', c', hv, _, _⟩ := hr.shape
  injection hv with _ hn _
  rw [b8s_length] at hn
  subst hn
  obtain ⟨h0, h1, _, _, _⟩ := four hb
  cases cr
  · go_enter Try.func11, Try.ntmps11
    go_wp2
    go_ret
    exact ⟨rfl, rfl⟩
  · go_enter Try.func11, Try.ntmps11
    go_wp2
    go_ret
    exact ⟨rfl, rfl⟩
theorem error_calls (w : World) (F : Nat → Prop) (g : Nat) (l : List UInt8) (cr : Bool) (most e : Int) (hf : Fr w F g l cr most e) :
    Calls Try.prog 13 #[.pointer (some ⟨g, 0, none⟩)] w fun en w' => en = .returned (.int .i64 e) ∧ w = w' := by
  obtain ⟨⟨v, hb, hr, _⟩, _⟩ := hf
  obtain ⟨_, _, _, h3, _⟩ := four hb
  go_enter Try.func13, Try.ntmps13
  go_wp2
  go_ret
  exact ⟨rfl, rfl⟩

set_option maxHeartbeats 1000000 in
set_option maxRecDepth 100000 in
theorem shown_calls (w : World) : Calls Try.prog 8 #[] w fun en w' => en = .returned (.bool true) ∧ Kept w w' NoB := by
  have kc := fun (w : World) (C : Array Value) (n c : Nat) => Lib.run_convert_bytes_const (P := Try.prog) w 29 5 C n c Try.underlying29 Try.underlying5
  go_enter Try.func8, Try.ntmps8
  go_wp2_with fail
  refine (new_calls 9 _).mono ?_
  rintro en w1 ⟨g, F, rfl, hf, hF, hk⟩
  go_wp2_with fail
  refine (put_lit (bs := [97]) (ls := []) (l' := [97]) (cr' := false) (e' := 0) hf rfl 1 1 rfl (by decide) (by rfl)).mono ?_
  rintro en w2 ⟨v, F2, rfl, hv, hf2, hF2, hk2⟩
  go_wp2_with fail
  refine (put_lit (bs := [98, 13]) (ls := []) (l' := [97, 98]) (cr' := true) (e' := 0) hf2 rfl 2 2 rfl (by decide) (by rfl)).mono ?_
  rintro en w3 ⟨v2, F3, rfl, hv2, hf3, hF3, hk3⟩
  go_wp2_with fail
  refine (put_lit (bs := [10, 99]) (ls := [[97, 98]]) (l' := [99]) (cr' := false) (e' := 0) hf3 rfl 2 2 rfl (by decide) (by rfl)).mono ?_
  rintro en w4 ⟨v3, F4, rfl, hv3, hf4, hF4, hk4⟩
  obtain ⟨A, c, rfl, _, hrd⟩ := hv3.readsN (n := 1) rfl
  obtain ⟨ad, u, rfl, hu, hcell⟩ := hrd.at_ (k := 0) (by decide)
  simp [strs] at hu
  subst hu
  rw [add_zero_] at hcell
  go_wp2_with fail
  refine (rest_calls _ _ _ _ _ _ _ hf4 (by decide)).mono ?_
  rintro en w5 ⟨rfl, rfl⟩
  go_wp2_with fail
  go_ret
  refine ⟨rfl, ?_⟩
  exact hk.trans (hk2.trans (hk3.trans hk4 fun b h => (hF3 b h).1) fun b h => (hF2 b h).1) fun b h => .inr (hF b h)
end Go.Proofs.Ytccggeliajbfaaa
