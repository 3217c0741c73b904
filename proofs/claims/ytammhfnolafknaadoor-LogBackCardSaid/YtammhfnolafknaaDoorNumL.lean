/- Numbers out of any text, in chapter 23. -/
import Derived.Test.YtammhfnolafknaaDoorLogW
import Derived.Test.YtammhfnolafknaaDoorShR
import Derived.Laws.RangeAny
import Derived.Laws.RangeString
import Derived.BigQuiet
import Derived.Shelf.Strconv.ErrVarAll
set_option linter.unusedVariables false
set_option linter.unusedSimpArgs false
namespace Go.Proofs.YtammhfnolafknaaDoor
open Go.RowKit Go.Shelf

theorem decode_big (s : ByteArray) (pos : Nat) (h : pos < s.size) (hb : 128 ≤ (s[pos]'h).toNat) : 128 ≤ (Utf8.decode s pos).1 := by
  have e : s.get! (pos + 0) = s[pos]'h := by
    show s.get! pos = _
    simp [ByteArray.get!, getElem!_pos, h]
    rfl
  have hr : 128 ≤ Utf8.runeError := by decide
  unfold Utf8.decode
  simp only [e]
  rw [if_neg (by omega)]
  split
  · split
    · assumption
    · exact hr
  · split
    · split
      · rename_i h1
        simp only [Bool.and_eq_true, decide_eq_true_eq] at h1
        show 128 ≤ _
        omega
      · exact hr
    · split
      · split
        · rename_i h1
          simp only [Bool.and_eq_true, decide_eq_true_eq] at h1
          show 128 ≤ _
          omega
        · exact hr
      · exact hr

theorem decode_asciiL (l : List UInt8) (i : Nat) (h : i < l.length) (ha : l[i].toNat < 128) : Utf8.decode (strB l) i = (l[i].toNat, 1) := by
  have := decode_ascii (strB l) i (by rw [strB_size]; exact h) (by rw [strB_getI]; exact ha)
  rwa [strB_getI] at this
theorem decode_bigL (l : List UInt8) (i : Nat) (h : i < l.length) (ha : 128 ≤ l[i].toNat) : 128 ≤ (Utf8.decode (strB l) i).1 :=
  decode_big (strB l) i (by rw [strB_size]; exact h) (by rw [strB_getI]; exact ha)
theorem Kept.iter {a w : World} {S : Nat → Prop} (h : Kept a w S) (s : ByteArray) (p : Nat) : Kept a (w.iter s p) S := h.alloc _

def PlS (w0 : World) (l : List UInt8) (p : UInt8 → Bool) (gk : Nat) (wr : World) : Prop :=
  ∃ i, i ≤ l.length ∧ gk = l.length - i ∧ wr = w0.iter (strB l) i ∧ (l.take i).all p = true
theorem all_take {l : List UInt8} {p : UInt8 → Bool} {i : Nat} (h : i < l.length) (h0 : (l.take i).all p = true) (h1 : p l[i] = true) : (l.take (i + 1)).all p = true := by
  rw [List.take_succ_eq_append_getElem h, List.all_append, h0]
  simp [h1]
theorem all_miss {l : List UInt8} {p : UInt8 → Bool} {i : Nat} (h : i < l.length) (h1 : p l[i] = false) : l.all p = false := by
  rw [List.all_eq_false]
  exact ⟨_, List.getElem_mem h, by simp [h1]⟩

def digC (c : UInt8) : Bool := decide (48 ≤ c.toNat ∧ c.toNat ≤ 57)
/-- The number of digits that spell v, if there is room. -/
def numV (l : List UInt8) (most v : Int) : Option Int := if 9 < l.length ∨ most < v then none else some v
def numR (r : Option Int) : Value := .tuple #[.int .i64 (r.getD 0), .bool r.isSome]

/-- A package's error is there. -/
def ErrV (w : World) (name : String) : Prop := ∃ u v, w.var? Tryd.prog name = some #[.iface u v]
theorem ErrV.kept0 {w w' : World} {name : String} (h : ErrV w name) (k : Kept w w' NoB) : ErrV w' name := by
  obtain ⟨u, v, h⟩ := h
  refine ⟨u, v, ?_⟩
  unfold World.var? at h ⊢
  cases hg : Tryd.prog.globalNamed name with
  | none => rw [hg] at h; cases h
  | some g =>
    rw [hg, Option.bind_some] at h
    rw [Option.bind_some]
    cases hh : w.heap[g]? with
    | none => rw [hh] at h; cases h
    | some o =>
      rw [hh] at h
      rw [k.heap hh fun x => x]
      exact h
theorem errV_of_head {W : World} {name ty : String} {d : DataW Unit} {rest : List (String × DataW Unit)} {g : Nat} {t : TypeId} {m : _} (hg : Tryd.prog.globalNamed name = some g) (hty : (Tryd.prog.globals[g]?).map (·.type) = some t)
    (ht : Tryd.prog.underlying t = some (.interface m)) (h : laidMet Tryd.prog ((name, .iface ty d) :: rest) W) : ErrV W name := by
  obtain ⟨ps, ⟨g', t', cs, fuel, p, q, hg', ht', hvar, hd, _, _⟩, _⟩ := h
  obtain rfl := Option.some.inj (hg.symm.trans hg')
  obtain rfl := Option.some.inj (hty.symm.trans ht')
  unfold ErrV
  rw [hvar]
  obtain ⟨l⟩ := cs
  cases fuel with
  | zero => simp [DataW.trod] at hd
  | succ fuel =>
    unfold DataW.trod at hd
    rw [ht] at hd
    simp only at hd
    split at hd <;> simp_all
/-- Both of Atoi's errors. -/
def ErrT (w : World) : Prop := ErrV w "strconv.ErrSyntax" ∧ ErrV w "strconv.ErrRange"
theorem ErrT.kept0 {w w' : World} (h : ErrT w) (k : Kept w w' NoB) : ErrT w' := ⟨h.1.kept0 k, h.2.kept0 k⟩

/-- The number that a text is. -/
def numA (l : List UInt8) (most : Int) : Option Int := if l.all digC then (match Lib.atoiAll l with | .ok v => numV l most v | _ => none) else none
set_option maxHeartbeats 2000000 in
set_option maxRecDepth 100000 in
theorem number_any (w : World) (l : List UInt8) (most : Int) (hl : l.length ≤ 1099511627776) (he : ErrT w) :
    Calls Tryd.prog 33 #[.string (strB l), .int .i64 most] w fun en w' => en = .returned (numR (numA l most)) ∧ Kept w w' NoB := by
  obtain ⟨r, hr0⟩ : ∃ r, numA l most = r := ⟨_, rfl⟩
  rw [hr0]
  have hbad : l.all digC = false → r = none := fun h => by rw [← hr0, numA, h]; rfl
  have hok : l.all digC = true → r = (match Lib.atoiAll l with | .ok v => numV l most v | _ => none) := fun h => by rw [← hr0, numA, h]; rfl
  have HBAD := Lib.hid hbad
  have HOK := Lib.hid hok
  have HE := Lib.hid he
  clear hbad hok hr0 he
  go_enter Tryd.func33, Tryd.ntmps33
  go_wp2_with fail
  go_loopg [7] l.length (fun gk v7 wr => PlS w l digC gk wr)
  case atStart => exact ⟨0, Nat.zero_le _, rfl, rfl, rfl⟩
  case round =>
    obtain ⟨i, hi, hgk, rfl, hall⟩ := hrel
    have HG := Lib.hid hgk
    have HALL := Lib.hid hall
    clear hgk hall
    rcases Nat.lt_or_ge i l.length with hlt | hge
    · have hnx := fun ty => run_next_any (P := Tryd.prog) w (strB l) i ty (by rw [strB_size]; exact hlt)
      obtain ⟨q, d, hrd⟩ : ∃ r d, Utf8.decode (strB l) i = (r, d) := ⟨_, _, rfl⟩
      simp only [hrd] at hnx
      rcases Nat.lt_or_ge l[i].toNat 128 with hasc | hbig
      · have hd := decode_asciiL l i hlt hasc
        rw [hd] at hrd
        injection hrd with h1 h2
        subst h1 h2
        by_cases hc : 48 ≤ l[i].toNat ∧ l[i].toNat ≤ 57
        · have hp : digC l[i] = true := by unfold digC; simpa using hc
          have hall' := all_take hlt HALL.out hp
          have HA := Lib.hid hall'
          obtain ⟨x, hx⟩ : ∃ x, l[i].toNat = x := ⟨_, rfl⟩
          rw [hx] at hnx hc
          have t1 : ¬ ((x : Int) < 48) := by omega
          have t2 : ¬ ((57 : Int) < (x : Int)) := by omega
          clear hall' hp hd hc hx hasc
          go_wp2_with fail
          go_roundg (l.length - (i + 1))
          case measure => have := HG.out; omega
          case rel => exact ⟨i + 1, hlt, rfl, rfl, HA.out⟩
        · have hp : digC l[i] = false := by unfold digC; simpa using hc
          have hres : r = none := HBAD.out (all_miss hlt hp)
          have HR := Lib.hid hres
          obtain ⟨x, hx⟩ : ∃ x, l[i].toNat = x := ⟨_, rfl⟩
          rw [hx] at hnx hc
          clear hp hd hx hasc hres
          rcases Nat.lt_or_ge x 48 with h3 | h3
          · have t1 : ((x : Int) < 48) := by omega
            go_wp2_with fail
            go_ret2
            exact ⟨by rw [HR.out]; rfl, (Kept.refl _ _).iter _ _⟩
          · have t1 : ¬ ((x : Int) < 48) := by omega
            have t2 : ((57 : Int) < (x : Int)) := by omega
            go_wp2_with fail
            go_ret2
            exact ⟨by rw [HR.out]; rfl, (Kept.refl _ _).iter _ _⟩
      · have hb := decode_bigL l i hlt hbig
        rw [hrd] at hb
        have hp : digC l[i] = false := by unfold digC; simp; omega
        have hres : r = none := HBAD.out (all_miss hlt hp)
        have HR := Lib.hid hres
        have hb' : 128 ≤ q := hb
        have t1 : ¬ ((q : Int) < 48) := by omega
        have t2 : ((57 : Int) < (q : Int)) := by omega
        clear hp hres hrd hbig hb
        go_wp2_with fail
        go_ret2
        exact ⟨by rw [HR.out]; rfl, (Kept.refl _ _).iter _ _⟩
    · obtain rfl : i = l.length := by omega
      have hnx := fun ty => run_next_end (P := Tryd.prog) w (strB l) l.length ty (by rw [strB_size]; omega)
      have hres : l.all digC = true := by
        have := HALL.out
        rwa [List.take_length] at this
      have hr := HOK.out hres
      cases hv : Lib.atoiAll l with
      | ok v =>
        rw [hv] at hr
        simp only at hr
        have hb := Lib.atoiAll_bounds hv
        have HV := Lib.hid hv
        have HR := Lib.hid hr
        clear hres hv hr
        go_wp2_with fail
        refine (Any.strconv_Atoi_ok shLaysC172 (strB l) (by rw [strB_size]; omega) v (by rw [strB_toList]; exact HV.out) _).mono ?_
        rintro en w1 ⟨rfl, hw1⟩
        have hk : Kept w w1 NoB := by
          rcases hw1 with rfl | ⟨t, rfl⟩
          · exact (Kept.refl _ _).iter _ _
          · exact ((Kept.refl _ _).iter _ _).bytesW _ _
        have HK := Lib.hid hk
        clear hw1 hk
        by_cases h9 : 9 < l.length
        · have t9 : (9 : Int) < (l.length : Int) := by omega
          go_wp2_with fail
          go_ret2
          exact ⟨by rw [HR.out, numV, if_pos (.inl h9)]; rfl, HK.out⟩
        · have t9 : ¬ ((9 : Int) < (l.length : Int)) := by omega
          by_cases hm : most < v
          · go_wp2_with fail
            go_ret2
            exact ⟨by rw [HR.out, numV, if_pos (.inr hm)]; rfl, HK.out⟩
          · go_wp2_with fail
            go_ret2
            exact ⟨by rw [HR.out, numV, if_neg (by omega)]; rfl, HK.out⟩
      | «syntax» =>
        rw [hv] at hr
        simp only at hr
        have HV := Lib.hid hv
        have HR := Lib.hid hr
        clear hres hv hr
        go_wp2_with fail
        obtain ⟨tp, p, hvar⟩ := (HE.out.1.kept0 ((Kept.refl w NoB).iter (strB l) l.length))
        refine (Any.strconv_Atoi_syntax_var shLaysC172 (strB l) (by rw [strB_size]; omega) (by rw [strB_toList]; exact HV.out) tp p _ hvar).mono ?_
        rintro en w1 ⟨N, rfl, _, _, hbel⟩
        have HK := Lib.hid (((Kept.refl w NoB).iter (strB l) l.length).trans' (Kept.of_below hbel))
        clear hbel hvar
        go_wp2_with fail
        go_ret2
        exact ⟨by rw [HR.out]; rfl, HK.out⟩
      | range =>
        rw [hv] at hr
        simp only at hr
        have HV := Lib.hid hv
        have HR := Lib.hid hr
        clear hres hv hr
        go_wp2_with fail
        obtain ⟨tp, p, hvar⟩ := (HE.out.2.kept0 ((Kept.refl w NoB).iter (strB l) l.length))
        refine (Any.strconv_Atoi_range_var shLaysC172 (strB l) (by rw [strB_size]; omega) (by rw [strB_toList]; exact HV.out) tp p _ hvar).mono ?_
        rintro en w1 ⟨N, rfl, _, _, hbel⟩
        have HK := Lib.hid (((Kept.refl w NoB).iter (strB l) l.length).trans' (Kept.of_below hbel))
        clear hbel hvar
        generalize Lib.atoiSat (strB l).data.toList = q
        go_wp2_with fail
        go_ret2
        exact ⟨by rw [HR.out]; rfl, HK.out⟩
end Go.Proofs.YtammhfnolafknaaDoor
