/-
  AX, twenty-second text: bytes as lists; contracts that turn own entries.
-/
import Derived.Test.YtfcjgklghgpddaaDoorAx21
import Derived.Test.YtfcjgklghgpddaaDoorAx19
namespace Go.AX

def bs (l : List UInt8) : ByteArray := ⟨l.toArray⟩
theorem bs_app (a b : List UInt8) : bs a ++ bs b = bs (a ++ b) := by
  apply ByteArray.ext
  simp [bs]
theorem bs_size (a : List UInt8) : (bs a).size = a.length := by simp [bs, ByteArray.size]
theorem bs_list (a : List UInt8) : (bs a).data.toList = a := by simp [bs]
theorem bs_of (b : ByteArray) : bs b.data.toList = b := rfl
theorem bs_ext (l : List UInt8) (i j : Nat) : (bs l).extract i j = bs ((l.take j).drop i) := by
  apply ByteArray.ext
  apply Array.ext'
  rw [ByteArray.data_extract]
  simp [bs, List.drop_take]
theorem bs_drop (l : List UInt8) (i : Nat) : (bs l).extract i l.length = bs (l.drop i) := by rw [bs_ext, List.take_length]
theorem bs_take (l : List UInt8) (j : Nat) : (bs l).extract 0 j = bs (l.take j) := by rw [bs_ext, List.drop_zero]
theorem byteAt_get {l : List UInt8} {i : Nat} {c : UInt8} (h : l[i]? = some c) : byteAt (bs l) i = (c.toNat : Int) := by
  simp [byteAt, bs_list, List.getD, h]
theorem take_snoc {α : Type} {l : List α} {i : Nat} {c : α} (h : l[i]? = some c) : l.take (i + 1) = l.take i ++ [c] := by
  obtain ⟨hi, rfl⟩ := List.getElem?_eq_some_iff.1 h
  exact List.take_succ_eq_append_getElem hi
theorem u8_eq {c : UInt8} {n : Nat} (hn : n < 256) : ((c.toNat : Int) == (n : Int)) = (c == UInt8.ofNat n) := by
  by_cases h : c = UInt8.ofNat n
  · subst h
    have e : (UInt8.ofNat n).toNat = n := by simp; omega
    rw [e]; simp
  · rw [show (c == UInt8.ofNat n) = false by simpa using h]
    have : ¬ (c.toNat : Int) = (n : Int) := fun h2 => h (UInt8.toNat_inj.1 (by simp; omega))
    simpa using this

/-- s[i:] -/
theorem ReadW.sl_l {P : Program} {o : Oper} {s : List AV} {H : List Ent} {K : AV → Prop} {t : TypeId} {x y : Operand} {b : List UInt8} {k : IntKind} {i : Int} (n : Nat) (ho : o.op = .slice t x (some y) none none) (hu : P.underlying t = some .string) (hx : opv s x = .c (.v (.string (bs b)))) (hy : opv s y = .c (.v (.int k i)))
    (h : i = (n : Int) ∧ n ≤ b.length) (hk : K (.c (.v (.string (bs (b.drop n)))))) : ReadW P o s H K :=
  ReadW.str_l ho hu hx hy ⟨by omega, by rw [bs_size]; omega⟩ (by rw [bs_size, show i.toNat = n by omega, bs_drop]; exact hk)
/-- s[:j] -/
theorem ReadW.sl_h {P : Program} {o : Oper} {s : List AV} {H : List Ent} {K : AV → Prop} {t : TypeId} {x y : Operand} {b : List UInt8} {k : IntKind} {i : Int} (n : Nat) (ho : o.op = .slice t x none (some y) none) (hu : P.underlying t = some .string) (hx : opv s x = .c (.v (.string (bs b)))) (hy : opv s y = .c (.v (.int k i)))
    (h : i = (n : Int) ∧ n ≤ b.length) (hk : K (.c (.v (.string (bs (b.take n)))))) : ReadW P o s H K :=
  ReadW.str_h ho hu hx hy ⟨by omega, by rw [bs_size]; omega⟩ (by rw [show i.toNat = n by omega, bs_take]; exact hk)
/-- s[i:j] -/
theorem ReadW.sl_lh {P : Program} {o : Oper} {s : List AV} {H : List Ent} {K : AV → Prop} {t : TypeId} {x y z : Operand} {b : List UInt8} {k k' : IntKind} {i j : Int} (n m : Nat) (ho : o.op = .slice t x (some y) (some z) none) (hu : P.underlying t = some .string) (hx : opv s x = .c (.v (.string (bs b)))) (hy : opv s y = .c (.v (.int k i))) (hz : opv s z = .c (.v (.int k' j)))
    (h : i = (n : Int) ∧ j = (m : Int) ∧ n ≤ m ∧ m ≤ b.length) (hk : K (.c (.v (.string (bs ((b.take m).drop n)))))) : ReadW P o s H K :=
  ReadW.str_lh ho hu hx hy hz ⟨by omega, by omega, by rw [bs_size]; omega⟩ (by rw [show i.toNat = n by omega, show j.toNat = m by omega, bs_ext]; exact hk)

/-- The call hands back a value of a family, and leaves own entries of that family. -/
def RetG {ι : Type} (inv : ι → Prop) (val : ι → Value) (G : ι → List Ent) : Out → List Ent → Prop := fun out H' => ∃ i, inv i ∧ out = .val (.c (.v (val i))) ∧ H' = G i
theorem SpecH.wkG {P : Program} {f : FuncId} {args : List AV} {H : List Ent} {ι : Type} {inv : ι → Prop} {val : ι → Value} {G : ι → List Ent} (hok : ∀ i, inv i → okH (G i).length (G i)) (hl : ∀ i, inv i → H.length ≤ (G i).length)
    (h : SpecH P f args H fun out H' => ∃ i, inv i ∧ out = .val (.c (.v (val i))) ∧ wkH H' (G i)) : SpecH P f args H (RetG inv val G) := by
  refine ⟨h.ok, fun ρ S w vs hs hr => (h.run ρ S w vs hs hr).mono fun e w' ⟨ρ', S', H', out, hs', hev, hout, i, hi, hx, hw⟩ => ?_⟩
  subst hx
  obtain ⟨h1, h2⟩ := hs'.weak hw (hok i hi)
  refine ⟨ρ'.take (G i).length, S', G i, .val (.c (.v (val i))), h1, ⟨?_, hev.os, hev.tape, hev.output, hev.size, hev.keep, hev.imm, fun b hb => hev.own b (h2 b hb)⟩, hout, i, hi, rfl, rfl⟩
  obtain ⟨t, ht⟩ := hev.pre
  refine ⟨t.take ((G i).length - ρ.length), ?_⟩
  rw [ht, List.take_append, List.take_of_length_le (by rw [hs.len]; exact hl i hi)]
/-- A contract on own entries, by the executor. -/
theorem ownC {P : Program} (hm : P.follows .mixedOrders = true) {f : FuncId} {fn : Func} {c : Code} (hf : P.funcs[f]? = some fn) (hn : (fn.name == "runtime.NumGoroutine") = false) (hb : fn.body = some c)
    {args : List AV} {H : List Ent} (hl : Nat.ble args.length fn.ntmps = true) {ι : Type} {inv : ι → Prop} {val : ι → Value} {G : ι → List Ent} (hok : ∀ i, inv i → okH (G i).length (G i)) (hl2 : ∀ i, inv i → H.length ≤ (G i).length)
    (h : initK fn.ntmps args fun s => exec P c s H (endK P fn.results.toList fun out H' => ∃ i, inv i ∧ out = .val (.c (.v (val i))) ∧ wkH H' (G i))) : SpecH P f args H (RetG inv val G) :=
  SpecH.wkG hok hl2 (spec_of_exec hm hf hn hb hl h)
/-- .. used among other entries. -/
theorem callG {P : Program} {f : FuncId} {args0 : List AV} {H0 : List Ent} {ι : Type} {inv : ι → Prop} {val : ι → Value} {G : ι → List Ent} (h : SpecH P f args0 H0 (RetG inv val G)) (σ : List Nat) {args : List AV} {H : List Ent} {K : Out → List Ent → Prop}
    (hn : ndB σ = true) (hp : part σ H.length H σ H0) (ha : args = rnS σ H.length args0) (hk : ∀ i, inv i → mrg (rnE σ H.length) σ (G i) H fun G' => K (.val (.c (.v (val i)))) G') : SpecH P f args H K :=
  h.at σ hn hp ha fun out H' ⟨i, hi, ho, hH⟩ => by subst ho; subst hH; exact hk i hi
theorem wkH_nil (H : List Ent) : wkH H [] := by cases H <;> trivial
theorem wkH_cons {e f : Ent} {H G : List Ent} (h : e = f) (k : wkH H G) : wkH (e :: H) (f :: G) := ⟨by subst h; exact wkE_refl _, k⟩
theorem wkH_of_eq {H G : List Ent} (h : H = G) : wkH H G := by subst h; exact wkH_refl _
end Go.AX
