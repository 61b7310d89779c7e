/-
  Lemmas (Ax50 V2 P11 C11).
-/
import Derived.Laws.AppendOwn
import Derived.Sort.OwnSorted
import Derived.Lib.SlicesCompact
import Derived.Test.YtahjbnfbilkbcaaGreatDoorEqv6
/-
  AX, fiftieth text: a call over plain values that hands back a slice of its own, with room behind it, perhaps nil.
-/
namespace Go.AX
open Go.RowKit

theorem Sat.addApp {ρ : List Loc} {S : Nat → Prop} {H : List Ent} {w w' : World} {T : TypeId} {sz n cap g : Nat} {ys : List Value} (hs : Sat ρ S H w) (h : Below w.heap.size w w') (hg : w.heap.size ≤ g) (hrow : RowF T sz n ys g cap w') :
    Sat (ρ ++ [⟨0, 0⟩]) S (H ++ [.app T sz ys (some ⟨g, 0, none⟩) n cap]) w' ∧ Ev ρ S H w (ρ ++ [⟨0, 0⟩]) S (H ++ [.app T sz ys (some ⟨g, 0, none⟩) n cap]) w' := by
  have h1 := hs.below h
  have hcase : ∀ (i : Nat) (e : Ent), (H ++ [Ent.app T sz ys (some ⟨g, 0, none⟩) n cap])[i]? = some e → (i < H.length ∧ H[i]? = some e) ∨ (i = H.length ∧ e = .app T sz ys (some ⟨g, 0, none⟩) n cap) := fun i e he => by
    by_cases hi : i < H.length
    · rw [List.getElem?_append_left hi] at he; exact .inl ⟨hi, he⟩
    · have hi2 : i = H.length := by
        have := (List.getElem?_eq_some_iff.1 he).1
        simp at this; omega
      subst hi2
      simp at he
      exact .inr ⟨rfl, he.symm⟩
  have hb2 : ∀ (i : Nat) (e : Ent) (b : Nat), (H ++ [Ent.app T sz ys (some ⟨g, 0, none⟩) n cap])[i]? = some e → entB (ρ ++ [⟨0, 0⟩]) i e b → (H[i]? = some e ∧ entB ρ i e b) ∨ (i = H.length ∧ b = g) := fun i e b he hb => by
    rcases hcase i e he with ⟨hi, he'⟩ | ⟨hi, rfl⟩
    · rw [entB_pre _ (by rw [hs.len]; exact hi)] at hb
      exact .inl ⟨he', hb⟩
    · exact .inr ⟨hi, (Option.some.inj hb).symm⟩
  refine ⟨⟨by simp [hs.len], fun i e he => ?_, fun i j e f b he hf heb hfb => ?_, fun b ⟨i, e, he, hb⟩ hn => ?_, h1.low⟩, ⟨⟨[⟨0, 0⟩], rfl⟩, h.os, h.tape, h.output, h.size, fun b hb _ => h.block b hb, fun b hb => .inl hb, fun b ⟨i, e, he, hb⟩ => ?_⟩⟩
  · rcases hcase i e he with ⟨hi, he'⟩ | ⟨hi, rfl⟩
    · have := (hs.ent i e he').move (w' := w') [⟨0, 0⟩] (fun b hb => h.block _ (hs.blk_lt he' hb)) fun b hb => h.block b (hs.low b hb)
      exact this
    · exact .inr ⟨g, rfl, hrow⟩
  · rcases hb2 i e b he heb with ⟨a1, a2⟩ | ⟨a1, a2⟩ <;> rcases hb2 j f b hf hfb with ⟨b1, b2⟩ | ⟨b1, b2⟩
    · exact hs.inj i j e f b a1 b1 a2 b2
    · have := hs.blk_lt a1 a2; omega
    · have := hs.blk_lt b1 b2; omega
    · omega
  · rcases hb2 i e b he hb with ⟨a1, a2⟩ | ⟨_, a2⟩
    · exact hs.out b ⟨i, e, a1, a2⟩ hn
    · have := hs.low b hn; omega
  · rcases hb2 i e b he hb with ⟨a1, a2⟩ | ⟨_, a2⟩
    · exact .inl ⟨i, e, a1, a2⟩
    · exact .inr (by omega)
theorem SpecH.rawN {P : Program} {f : FuncId} {xs : List Value} {H : List Ent} {K : Out → List Ent → Prop} {T : TypeId} {sz n : Nat} {ys : List Value} (ok : CallOk P f)
    (h : ∀ w, Facts H w → Calls P f xs.toArray w fun e w' => ∃ v, e = .returned v ∧ w'.ownsRow w.heap.size T sz v n ys ∧ Below w.heap.size w w')
    (hk0 : n = 0 → snocK H (.app T sz [] none 0 0) 0 fun H' _ => K (.val (.c (.v (.slice none 0 0)))) H')
    (hk : ∀ b cap : Nat, n ≤ cap → snocK H (.app T sz ys (some ⟨b, 0, none⟩) n cap) 0 fun H' _ => K (.val (.c (.v (.slice (some ⟨b, 0, none⟩) n cap)))) H') : SpecH P f (pvs xs) H K := by
  simp only [snocK_eq] at hk hk0
  refine ⟨ok, fun ρ S w vs hs hr => ?_⟩
  obtain rfl := RelS_pvs hr
  refine (h w hs.facts).mono fun e w' ⟨v, he, hrow, bel⟩ => ?_
  rcases hrow.2 with ⟨rfl, h0⟩ | ⟨g, cap, cur, rfl, hg, hb, h1, h2, h3, h4⟩
  · have hs' := (hs.below bel).pad [.app T sz [] none 0 0] rfl
    obtain ⟨t, hs2, hev2⟩ := hs'
    refine ⟨ρ ++ t, S, _, .val (.c (.v (.slice none 0 0))), hs2, ?_, ⟨_, he, rfl⟩, hk0 h0⟩
    exact (below_ev (S := S) (S' := S) (ρ := ρ) (H := H) (H' := H) [] bel (fun b hb => .inl hb) (fun b hb => by simpa using hb)).trans (by simpa using hev2)
  · have hR : RowF T sz n ys g cap w' := ⟨cur, (0, 0), ⟨hb, .inl rfl⟩, hrow.1, h1, h2, h3, h4⟩
    obtain ⟨hs2, hev2⟩ := hs.addApp bel hg hR
    exact ⟨_, S, _, .val (.c (.v (.slice (some ⟨g, 0, none⟩) n cap))), hs2, hev2, ⟨_, he, rfl⟩, hk g cap h1⟩
end Go.AX

/-
  Contracts: slices.AppendSeq, Sort and Compact at strings, over slices of one's own.
-/
namespace Go.Proofs.YtahjbnfbilkbcaaGreatDoor
open Go.RowKit Go.AX Go.Core Go.Sort Go.Proofs
set_option maxRecDepth 20000

theorem holds_row {T : TypeId} {b cap : Nat} {zs : List (List UInt8)} {w : World} (h : RowF T 1 zs.length (strC zs) b cap w) : Holds encStr w b 0 zs.toArray := by
  obtain ⟨arr, ⟨lo, hi⟩, ⟨hb, hfr⟩, h1, h2, h3, h4, h5⟩ := h
  intro j hj
  have hj' : j < zs.length := by simpa using hj
  have h6 : (arr.toList.take (zs.length * 1))[j]? = (strC zs)[j]? := by rw [h5]
  rw [List.getElem?_take_of_lt (by omega)] at h6
  unfold strC at h6
  rw [List.getElem?_map, List.getElem?_eq_getElem hj'] at h6
  refine ⟨?_, ?_⟩
  · simp only [World.cell?, hb, Nat.zero_add]
    simp only [Option.isSome_none, Bool.false_eq_true, if_false]
    rw [Array.getElem?_toList] at h6
    rw [h6, getElem!_pos zs.toArray j (by simpa using hj')]
    rfl
  · simp only [World.frozen?, hb, Nat.zero_add]
    rcases hfr with hfr | hfr
    · cases hfr; simp
    · have : ¬ lo ≤ j := by
        simp only at hfr
        have : j < arr.size := by omega
        omega
      simp [this]
theorem row_put {T : TypeId} {b cap k : Nat} {zs ts : List (List UInt8)} {w : World} {os : Array Obj} (h : RowF T 1 zs.length (strC zs) b cap w) (hb : b < w.heap.size) (hl : ts.length = zs.length) : RowF T 1 zs.length (strC ts) b cap (grow (putRow encStr (Sort.ahead w k) b 0 ts.toArray) os) := by
  obtain ⟨arr, fr, ⟨hh, hfr⟩, h1, h2, h3, h4, h5⟩ := h
  have hsz : (putCells encStr 0 ts.toArray arr).size = arr.size := by simp [putCells]
  refine ⟨putCells encStr 0 ts.toArray arr, fr, ⟨?_, by rw [hsz]; exact hfr⟩, by simp [strC, hl], h2, h3, by rw [hsz]; exact h4, ?_⟩
  · rw [heap_grow_old _ _ (by simp [putRow, mapBlock, Sort.ahead, hb])]
    simp [putRow, mapBlock, Sort.ahead, Array.getElem?_modify, hh, onCells]
  · rw [Nat.mul_one, ← hl]
    exact take_putCells arr ts (by omega)
def sortS (zs : List (List UInt8)) : List (List UInt8) := zs.mergeSort fun x y => decide (x ≤ y)
theorem sortS_len (zs : List (List UInt8)) : (sortS zs).length = zs.length := (List.mergeSort_perm zs _).length_eq
theorem Sort_c {H : List Ent} {K : Out → List Ent → Prop} (i : Nat) (zs : List (List UInt8)) (b cap : Nat) (hz : zs.length ≤ 2000) (hi : nthE H i = some (.app 9 1 (strC zs) (some ⟨b, 0, none⟩) zs.length cap))
    (hk : setEK H i (.app 9 1 (strC (sortS zs)) (some ⟨b, 0, none⟩) zs.length cap) fun H' => K (.val (.c (.v (.tuple #[])))) H') : SpecH Tryz.prog 113 (pvs [.slice (some ⟨b, 0, none⟩) zs.length cap]) H K :=
  SpecH.rawA (callOk Tryz.func113 (by kernel_rfl) rfl) i hi (R := fun r n' ys' => r = .tuple #[] ∧ n' = zs.length ∧ ys' = strC (sortS zs)) (fun w hrow hb => (Tryz.slices_Sort_string b 0 cap zs w (holds_row hrow) hb (by omega)).mono fun e w' ⟨he, k, os, hw⟩ => by
    subst hw
    have hg := grownBy_sorted (w := w) (g := b) (n := k) (os := os) (sortS zs).toArray
    exact ⟨_, _, _, he, ⟨rfl, rfl, rfl⟩, row_put hrow hb (sortS_len zs), hg.size, fun k hk hne => hg.block k hk (fun e => hne (Option.some.inj e)), hg.os, hg.tape, hg.output⟩) fun r n' ys' ⟨h1, h2, h3⟩ => by
    subst h1 h2 h3
    exact hk
theorem SortNil_c {H : List Ent} {K : Out → List Ent → Prop} (p : Option Addr) (cap : Nat) (hk : K (.val (.c (.v (.tuple #[])))) H) : SpecH Tryz.prog 113 (pvs [.slice p 0 cap]) H K :=
  SpecH.rawP (R := fun r => r = .tuple #[]) (callOk Tryz.func113 (by kernel_rfl) rfl) (fun w _ => (Tryz.slices_Sort_string_none p cap w).mono fun e w' ⟨he, hw⟩ => by
    subst hw
    exact ⟨_, he, rfl, Below.refl _ _⟩) fun r hr => by subst hr; exact hk
theorem Compact_c {H : List Ent} {K : Out → List Ent → Prop} (i : Nat) (zs : List (List UInt8)) (b cap : Nat) (hz : zs.length ≤ 2000) (hcap : zs.length ≤ cap) (hi : nthE H i = some (.app 9 1 (strC zs) (some ⟨b, 0, none⟩) zs.length cap))
    (hk : ∀ ys, setEK H i (.app 9 1 ys (some ⟨b, 0, none⟩) zs.length cap) fun H' => K (.val (.c (.v (.slice (some ⟨b, 0, none⟩) (Lib.compact zs).length cap)))) H') : SpecH Tryz.prog 88 (pvs [.slice (some ⟨b, 0, none⟩) zs.length cap]) H K :=
  SpecH.rawA (callOk Tryz.func88 (by kernel_rfl) rfl) i hi (R := fun r n' _ => r = .slice (some ⟨b, 0, none⟩) (Lib.compact zs).length cap ∧ n' = zs.length) (fun w hrow hb => (Tryz.slices_Compact_string b 0 cap zs w (holds_row hrow) (by omega) hcap).mono fun e w' ⟨he, k, hw⟩ => by
    subst hw
    have hlen : (Lib.compact zs ++ List.replicate (zs.length - (Lib.compact zs).length) []).length = zs.length := by
      have := Lib.compact_length_le zs
      simp
      omega
    have hr := row_put (k := k) (os := #[]) hrow hb hlen
    have hg := grownBy_sorted (w := w) (g := b) (n := k) (os := #[]) (Lib.compact zs ++ List.replicate (zs.length - (Lib.compact zs).length) []).toArray
    rw [grow_empty] at hr hg
    exact ⟨_, _, _, he, ⟨rfl, rfl⟩, hr, hg.size, fun k hk hne => hg.block k hk (fun e => hne (Option.some.inj e)), hg.os, hg.tape, hg.output⟩) fun r n' ys' ⟨h1, h2⟩ => by
    subst h1 h2
    exact hk ys'
theorem Compact_n {H : List Ent} {K : Out → List Ent → Prop} (i : Nat) (zs : List (List UInt8)) (n : Nat) (hn : zs.length = n) (b cap : Nat) (hz : n ≤ 2000) (hcap : n ≤ cap) (hi : nthE H i = some (.app 9 1 (strC zs) (some ⟨b, 0, none⟩) n cap))
    (hk : ∀ ys, setEK H i (.app 9 1 ys (some ⟨b, 0, none⟩) n cap) fun H' => K (.val (.c (.v (.slice (some ⟨b, 0, none⟩) (Lib.compact zs).length cap)))) H') : SpecH Tryz.prog 88 (pvs [.slice (some ⟨b, 0, none⟩) n cap]) H K := by
  subst hn
  exact Compact_c i zs b cap hz hcap hi hk
theorem CompactNil_c {H : List Ent} {K : Out → List Ent → Prop} (p : Option Addr) (cap : Nat) (hk : K (.val (.c (.v (.slice p 0 cap)))) H) : SpecH Tryz.prog 88 (pvs [.slice p 0 cap]) H K :=
  SpecH.rawP (R := fun r => r = .slice p 0 cap) (callOk Tryz.func88 (by kernel_rfl) rfl) (fun w _ => (Tryz.slices_Compact_string_empty p cap w).mono fun e w' ⟨he, hw⟩ => by
    subst hw
    exact ⟨_, he, rfl, Below.refl _ _⟩) fun r hr => by subst hr; exact hk
theorem strs_at {w : World} {a : Option Addr} {cap : Nat} {zs : List (List UInt8)} (h : SlAt a (zs.length * 1) (strC zs) w) : StrsAt w.heap.size w (.slice a zs.length cap) zs ∨ zs = [] := by
  cases zs with
  | nil => exact .inr rfl
  | cons z zs =>
    obtain ⟨h1, h2, h3⟩ := h
    have ha := h2 (by simp)
    obtain ⟨p, rfl⟩ := Option.isSome_iff_exists.1 ha
    have hc : ∀ j, j < (z :: zs).length → w.cell? (p.add j) = (strC (z :: zs))[j]? := fun j hj => h3 j (by omega)
    have h0 := hc 0 (by simp)
    have hsp : p.spot = none ∧ p.block < w.heap.size := by
      have e : (strC (z :: zs))[0]? = some (.string (bs z)) := rfl
      rw [e] at h0
      unfold World.cell? at h0
      split at h0
      · rename_i c T fr hb
        have hb' : p.block < w.heap.size := (Array.getElem?_eq_some_iff.1 hb).1
        by_cases hs : (p.add 0).spot.isSome
        · rw [if_pos hs] at h0; cases h0
        · refine ⟨?_, hb'⟩
          have : ¬ p.spot.isSome = true := hs
          simpa using this
      · cases h0
    obtain ⟨pb, po, ps⟩ := p
    obtain ⟨rfl, hlt⟩ : ps = none ∧ pb < w.heap.size := hsp
    refine .inl (.inr ⟨pb, po, cap, rfl, hlt, fun j hj => ?_⟩)
    have := hc j hj
    unfold strC at this
    rw [List.getElem?_map, List.getElem?_eq_getElem hj] at this
    rw [List.getElem?_eq_getElem hj]
    rw [add_lit] at this
    exact this
theorem AppendSeq_c {H : List Ent} {K : Out → List Ent → Prop} (B cap : Nat) (a : Option Addr) (zs : List (List UInt8)) (hz : zs.length ≤ 2000) (hF : ∀ w, Facts H w → w.cell? ⟨B, 0, none⟩ = some (.slice a zs.length cap) ∧ SlAt a (zs.length * 1) (strC zs) w)
    (hk0 : zs.length = 0 → snocK H (.app 9 1 [] none 0 0) 0 fun H' _ => K (.val (.c (.v (.slice none 0 0)))) H')
    (hk : ∀ b c : Nat, zs.length ≤ c → snocK H (.app 9 1 (strC zs) (some ⟨b, 0, none⟩) zs.length c) 0 fun H' _ => K (.val (.c (.v (.slice (some ⟨b, 0, none⟩) zs.length c)))) H') :
    SpecH Tryz.prog 127 (pvs [.slice none 0 0, .func (.func 114) #[] #[.pointer (some ⟨B, 0, none⟩)]]) H K := by
  refine SpecH.rawN (T := 9) (sz := 1) (n := zs.length) (ys := strC zs) (callOk Tryz.func127 (by kernel_rfl) rfl) (fun w hw => ?_) hk0 hk
  obtain ⟨h1, h3⟩ := hF w hw
  have hB : B < w.heap.size := by
    unfold World.cell? at h1
    split at h1
    · rename_i hb; exact (Array.getElem?_eq_some_iff.1 hb).1
    · cases h1
  have hs : StrsAt w.heap.size w (.slice a zs.length cap) zs := by
    rcases strs_at (cap := cap) h3 with h | h
    · exact h
    · subst h
      exact .inl ⟨a, cap, rfl, rfl⟩
  have hm : zs.length ≤ maxLen := by simp only [maxLen]; omega
  exact (callsIn_wide (n := 5)).1 ((appendSeq_in Fence.wide 5 trivial trivial rfl (by omega) B _ zs hm (by omega) w hB h1 hs).mono fun e w' ⟨v, he, hr, hb⟩ => ⟨v, he, hr, hb⟩)
end Go.Proofs.YtahjbnfbilkbcaaGreatDoor

/-
  Plain: names are different just where sorting them and striking equal neighbours leaves as many.
-/
namespace Go.Core
open Go.Lib

theorem filter_full {α : Type} {p : α → Bool} : ∀ {l : List α}, (l.filter p).length = l.length → ∀ x ∈ l, p x = true
  | [], _, _, h => by cases h
  | a :: l, he, x, h => by
    rw [List.filter_cons] at he
    have hle := List.length_filter_le p l
    cases hp : p a with
    | false => rw [if_neg (by simp [hp])] at he; simp only [List.length_cons] at he; omega
    | true =>
      rw [if_pos hp] at he
      simp only [List.length_cons] at he
      rcases List.mem_cons.1 h with rfl | h
      · exact hp
      · exact filter_full (by omega) x h
theorem compact_len (zs : List (List UInt8)) : (compact zs).length = zs.length ↔ ∀ j, j < zs.length → keeps zs.toArray j = true := by
  constructor
  · intro h j hj
    unfold compact compactUpTo at h
    rw [List.length_map] at h
    exact filter_full (l := List.range zs.length) (by rw [h, List.length_range]) j (List.mem_range.2 hj)
  · exact fun h => by rw [compact_all zs h]
theorem sorted_nodup {zs : List (List UInt8)} (hs : zs.Pairwise fun a b => decide (a ≤ b) = true) : (∀ j, j < zs.length → keeps zs.toArray j = true) ↔ zs.Nodup := by
  constructor
  · intro h
    refine List.pairwise_iff_getElem.2 fun i j hi hj hij he => ?_
    -- the neighbour of j lies between both
    have h1 := h j hj
    unfold keeps at h1
    rw [decide_eq_true_eq] at h1
    have h2 : zs.toArray[j]! ≠ zs.toArray[j - 1]! := h1.resolve_left (by omega)
    rw [getElem!_pos zs.toArray j (by simpa using hj), getElem!_pos zs.toArray (j - 1) (by simp; omega)] at h2
    simp only [List.getElem_toArray] at h2
    refine h2 ?_
    rcases Nat.lt_or_ge i (j - 1) with hlt | hge
    · have a1 := List.pairwise_iff_getElem.1 hs i (j - 1) hi (by omega) hlt
      have a2 := List.pairwise_iff_getElem.1 hs (j - 1) j (by omega) hj (by omega)
      simp only [decide_eq_true_eq] at a1 a2
      rw [he] at a1
      exact List.le_antisymm a1 a2
    · have e : i = j - 1 := by omega
      subst e
      exact he.symm
  · intro h j hj
    unfold keeps
    rw [decide_eq_true_eq]
    rcases Nat.eq_zero_or_pos j with h0 | h0
    · exact .inl h0
    · refine .inr ?_
      rw [getElem!_pos zs.toArray j (by simpa using hj), getElem!_pos zs.toArray (j - 1) (by simp; omega)]
      simp only [List.getElem_toArray]
      exact Ne.symm (List.pairwise_iff_getElem.1 h (j - 1) j (by omega) hj (by omega))
theorem compact_sort (ss : List (List UInt8)) : (compact (ss.mergeSort fun x y => decide (x ≤ y))).length = ss.length ↔ ss.Nodup := by
  have hp := List.mergeSort_perm ss fun x y => decide (x ≤ y)
  have hs : (ss.mergeSort fun x y => decide (x ≤ y)).Pairwise fun a b => decide (a ≤ b) = true :=
    List.pairwise_mergeSort (fun a b c h1 h2 => by simp only [decide_eq_true_eq] at *; exact List.le_trans h1 h2) (fun a b => by simp only [Bool.or_eq_true, decide_eq_true_eq]; exact List.le_total a b) ss
  rw [← hp.length_eq, compact_len, sorted_nodup hs]
  exact hp.nodup_iff
end Go.Core

/-
  Contract: whether the fields of a cell are valid (program).
-/
namespace Go.Proofs.YtahjbnfbilkbcaaGreatDoor
open Go.AX Go.RowKit Go.Core Go.Scan
set_option maxRecDepth 20000

def plWords (text : List UInt8) (p5 p10 p14 : Bool) (k : Int) : Option Value :=
  if k = 4 ∧ p5 = true then some (.bool (decide ((text.length : Int) ≤ 2000))) else if k = 5 ∧ p10 = true then some (.bool (decide ((text.length : Int) ≤ 40))) else if k = 8 ∧ p14 = true then some (.bool (icB text)) else none
def plOk (p0 p13 p5 p10 p14 p15 p16 : Bool) : Bool := (!p5 || p0) && (!p10 || p0) && (!p14 || (p0 && p13)) && (!p15 || (p5 && p10 && p14)) && (!p16 || p15)
def plN (p0 p13 p5 p10 p14 p15 p16 : Bool) : Nat := (!p0).toNat + (!p13).toNat + (!p5).toNat + (!p10).toNat + (!p14).toNat + (!p15).toNat + (!p16).toNat
def mpA (p : Bool) (b : Nat) : AV := bif p then .c (.v (.map (some b))) else .c .any
def plS (c : Value) (cb b : Nat) (text : List UInt8) (p0 p13 p15 p16 : Bool) : List AV :=
  .c (.v c) :: .c (.v (.pointer (some ⟨cb, 0, none⟩))) :: .c (.v (.bool false)) :: mpA p16 b :: .c .any :: .c .any :: .c .any :: mpA p0 b ::
    .c (.v (.pointer (some ⟨cb, 2, none⟩))) :: .c (.v (.string (bs text))) :: .c (.v (.int .i64 (text.length : Int))) :: .c (.v (.bool (decide ((text.length : Int) ≤ 2000)))) ::
    .c (.v (.pointer (some ⟨cb, 2, none⟩))) :: .c (.v (.string (bs text))) :: .c (.v (.int .i64 (text.length : Int))) :: .c (.v (.bool (decide ((text.length : Int) ≤ 40)))) ::
    .c (.v (.pointer (some ⟨cb, 2, none⟩))) :: .c (.v (.string (bs text))) :: (bif p13 then .c (.v (.bool (icB text))) else .c .any) :: mpA p15 b :: mkS 111 20 []
def plH (F : World → Prop) (cs : List Value) (cb b cl : Nat) (es : Array MapEntry) (p0 : Bool) : List Ent :=
  .fact F :: .app 42 5 cs (some ⟨cb, 0, none⟩) 1 1 :: (bif p0 then [.mp b es cl] else [])
def plJ (F : World → Prop) (c : Value) (cs : List Value) (cb : Nat) (text : List UInt8) (n : Nat) (ls : Array Bool) (s : List AV) (H : List Ent) : Prop :=
  ∃ (p0 p13 p5 p10 p14 p15 p16 : Bool) (b cl : Nat) (es : Array MapEntry), plOk p0 p13 p5 p10 p14 p15 p16 = true ∧ n = plN p0 p13 p5 p10 p14 p15 p16 ∧ ls = #[p0, true, true, true, true, p5, true, true, true, true, p10, true, true, p13, p14, p15, p16] ∧
    s = plS c cb b text p0 p13 p15 p16 ∧ H = plH F cs cb b cl es p0 ∧ MapIs .i64 es (plWords text p5 p10 p14)
theorem plain1_c (s : List UInt8) (hs : s.length ≤ 200000000000000) : ∀ H, SpecH Tryz.prog 90 (pvs [.string (bs s)]) H (Ret (.bool (!iiB s)) H) := by
  refine pureC hm Tryz.func90 (by kernel_rfl) rfl rfl ?_
  (first | refine wX ?_ | exact wZ)
  refine call1 (IsIvar_c s hs _) ?_
  (first | refine wX ?_ | exact wZ)
theorem CompactN_c (p : Option Addr) (cap : Nat) : ∀ H, SpecH Tryz.prog 88 (pvs [.slice p 0 cap]) H (Ret (.slice p 0 cap) H) := fun _ => CompactNil_c p cap ⟨rfl, rfl⟩
set_option maxHeartbeats 4000000 in
theorem plain_c0 (kind num : Int) (text : List UInt8) (names : List (List UInt8)) (items : List Int) (na : Option Addr) (nc : Nat) (ia : Option Addr) (ic : Nat) (hna : na = none → names = []) (hia : ia = none → items = []) (hnl : names.length ≤ 2000) (hil : items.length ≤ 2000) (hnw : ∀ s ∈ names, s.length ≤ 200000000000000) (htl : text.length ≤ 200000000000000) :
    ∀ H, (∀ w, Facts H w → SlAt na (names.length * 1) (strC names) w ∧ SlAt ia (items.length * 1) (iC items) w) → SpecH Tryz.prog 45 (pvs [.agg #[.int .i64 kind, .int .i64 num, .string (bs text), .slice na names.length nc, .slice ia items.length ic]]) H (Ret (.bool (plainS ⟨kind, num, text, names, items⟩)) H) := by
  refine factC hm Tryz.func45 (by kernel_rfl) rfl rfl ?_
  (first | refine wXB ?_ | exact wZB)
  refine BoxN.known [.int .i64 kind, .int .i64 num, .string (bs text), .slice na names.length nc, .slice ia items.length ic] rfl fun cb => ?_
  (first | refine wXB ?_ | exact wZB)
  refine DrawN.walk hm (fun w => SlAt (some ⟨cb, 0, none⟩) 5 [.int .i64 kind, .int .i64 num, .string (bs text), .slice na names.length nc, .slice ia items.length ic] w) [1, 2, 3, 4, 6, 7, 8, 9, 11, 12] 7 (plJ (fun w => SlAt na (names.length * 1) (strC names) w ∧ SlAt ia (items.length * 1) (iC items) w) (.agg #[.int .i64 kind, .int .i64 num, .string (bs text), .slice na names.length nc, .slice ia items.length ic]) [.int .i64 kind, .int .i64 num, .string (bs text), .slice na names.length nc, .slice ia items.length ic] cb text) (by decide +kernel) (by decide +kernel) (by decide +kernel) ?_ ?_
  · rintro n ls s H ⟨p0, p13, p5, p10, p14, p15, p16, b, cl, es, hok, rfl, rfl, rfl, rfl, hes⟩
    refine ⟨fun w hw => hw.2.1, ?_⟩
    cases p16 with
    | true =>
      obtain ⟨rfl, rfl, rfl, rfl, rfl, rfl⟩ : p0 = true ∧ p13 = true ∧ p5 = true ∧ p10 = true ∧ p14 = true ∧ p15 = true := by
        clear hes
        revert p0 p13 p5 p10 p14 p15
        decide
      refine .inl ⟨by decide +kernel, ?_⟩
      have hkk : kind < 0 ∨ 8 < kind ∨ kind = 0 ∨ kind = 1 ∨ kind = 2 ∨ kind = 3 ∨ kind = 4 ∨ kind = 5 ∨ kind = 6 ∨ kind = 7 ∨ kind = 8 := by omega
      obtain ⟨j, hj⟩ := hes kind
      rcases hkk with hk | hk | rfl | rfl | rfl | rfl | rfl | rfl | rfl | rfl | rfl
      · -- what the map holds: nothing
        rw [show plWords text true true true kind = none by unfold plWords; rw [if_neg (by omega), if_neg (by omega), if_neg (by omega)]] at hj
        ((conv => whnf); (repeat ((first | refine LdN.one (a := some ⟨cb, 0, none⟩) (q := 0) (xs := [_, _, _, _, _]) _ rfl (fun w hw => hw.2.1) rfl ?_ | refine LdN.one (a := some ⟨cb, 0, none⟩) (q := 1) (xs := [_, _, _, _, _]) _ rfl (fun w hw => hw.2.1) rfl ?_ | refine LdN.one (a := some ⟨cb, 0, none⟩) (q := 2) (xs := [_, _, _, _, _]) _ rfl (fun w hw => hw.2.1) rfl ?_ | refine LdN.one (a := some ⟨cb, 0, none⟩) (q := 3) (xs := [_, _, _, _, _]) _ rfl (fun w hw => hw.2.1) rfl ?_ | refine LdN.one (a := some ⟨cb, 0, none⟩) (q := 4) (xs := [_, _, _, _, _]) _ rfl (fun w hw => hw.2.1) rfl ?_ | refine RwN.own ?_ | refine VrN.norm (wrap_i64 (by omega)) ?_ | refine VrN.keep ?_ | refine DrawN.calm (by decide +kernel) ?_ | refine Nd.mk (by decide +kernel) ?_ | refine Nd.mk (by omega) ?_ | (refine Nd.mk ?_ ?_; focus ((repeat' (first | exact trivial | exact wkE_refl _ | refine And.intro ?_ ?_)); done)) | refine RdN.intro _ rfl (by rfl) ?_); (conv => whnf))))
        refine ReadW.askMap none rfl Tryz.underlying119 Tryz.underlying3 rfl rfl rfl rfl (fun w hw => hw.2.2.1) hj ?_
        ((conv => whnf); (repeat ((first | refine LdN.one (a := some ⟨cb, 0, none⟩) (q := 0) (xs := [_, _, _, _, _]) _ rfl (fun w hw => hw.2.1) rfl ?_ | refine LdN.one (a := some ⟨cb, 0, none⟩) (q := 1) (xs := [_, _, _, _, _]) _ rfl (fun w hw => hw.2.1) rfl ?_ | refine LdN.one (a := some ⟨cb, 0, none⟩) (q := 2) (xs := [_, _, _, _, _]) _ rfl (fun w hw => hw.2.1) rfl ?_ | refine LdN.one (a := some ⟨cb, 0, none⟩) (q := 3) (xs := [_, _, _, _, _]) _ rfl (fun w hw => hw.2.1) rfl ?_ | refine LdN.one (a := some ⟨cb, 0, none⟩) (q := 4) (xs := [_, _, _, _, _]) _ rfl (fun w hw => hw.2.1) rfl ?_ | refine RwN.own ?_ | refine VrN.norm (wrap_i64 (by omega)) ?_ | refine VrN.keep ?_ | refine DrawN.calm (by decide +kernel) ?_ | refine Nd.mk (by decide +kernel) ?_ | refine Nd.mk (by omega) ?_ | (refine Nd.mk ?_ ?_; focus ((repeat' (first | exact trivial | exact wkE_refl _ | refine And.intro ?_ ?_)); done)) | refine RdN.intro _ rfl (by rfl) ?_); (conv => whnf))))
        refine brd_dec (fun _ => ?_) (fun h => absurd hk h)
        ((conv => whnf); (repeat ((first | refine LdN.one (a := some ⟨cb, 0, none⟩) (q := 0) (xs := [_, _, _, _, _]) _ rfl (fun w hw => hw.2.1) rfl ?_ | refine LdN.one (a := some ⟨cb, 0, none⟩) (q := 1) (xs := [_, _, _, _, _]) _ rfl (fun w hw => hw.2.1) rfl ?_ | refine LdN.one (a := some ⟨cb, 0, none⟩) (q := 2) (xs := [_, _, _, _, _]) _ rfl (fun w hw => hw.2.1) rfl ?_ | refine LdN.one (a := some ⟨cb, 0, none⟩) (q := 3) (xs := [_, _, _, _, _]) _ rfl (fun w hw => hw.2.1) rfl ?_ | refine LdN.one (a := some ⟨cb, 0, none⟩) (q := 4) (xs := [_, _, _, _, _]) _ rfl (fun w hw => hw.2.1) rfl ?_ | refine RwN.own ?_ | refine VrN.norm (wrap_i64 (by omega)) ?_ | refine VrN.keep ?_ | refine DrawN.calm (by decide +kernel) ?_ | refine Nd.mk (by decide +kernel) ?_ | refine Nd.mk (by omega) ?_ | (refine Nd.mk ?_ ?_; focus ((repeat' (first | exact trivial | exact wkE_refl _ | refine And.intro ?_ ?_)); done)) | refine RdN.intro _ rfl (by rfl) ?_); (conv => whnf))))
        exact out_bool (by
          have : ¬ 0 ≤ kind := by omega
          unfold Go.Core.plainS; simp [this])
      · -- what the map holds: nothing
        rw [show plWords text true true true kind = none by unfold plWords; rw [if_neg (by omega), if_neg (by omega), if_neg (by omega)]] at hj
        ((conv => whnf); (repeat ((first | refine LdN.one (a := some ⟨cb, 0, none⟩) (q := 0) (xs := [_, _, _, _, _]) _ rfl (fun w hw => hw.2.1) rfl ?_ | refine LdN.one (a := some ⟨cb, 0, none⟩) (q := 1) (xs := [_, _, _, _, _]) _ rfl (fun w hw => hw.2.1) rfl ?_ | refine LdN.one (a := some ⟨cb, 0, none⟩) (q := 2) (xs := [_, _, _, _, _]) _ rfl (fun w hw => hw.2.1) rfl ?_ | refine LdN.one (a := some ⟨cb, 0, none⟩) (q := 3) (xs := [_, _, _, _, _]) _ rfl (fun w hw => hw.2.1) rfl ?_ | refine LdN.one (a := some ⟨cb, 0, none⟩) (q := 4) (xs := [_, _, _, _, _]) _ rfl (fun w hw => hw.2.1) rfl ?_ | refine RwN.own ?_ | refine VrN.norm (wrap_i64 (by omega)) ?_ | refine VrN.keep ?_ | refine DrawN.calm (by decide +kernel) ?_ | refine Nd.mk (by decide +kernel) ?_ | refine Nd.mk (by omega) ?_ | (refine Nd.mk ?_ ?_; focus ((repeat' (first | exact trivial | exact wkE_refl _ | refine And.intro ?_ ?_)); done)) | refine RdN.intro _ rfl (by rfl) ?_); (conv => whnf))))
        refine ReadW.askMap none rfl Tryz.underlying119 Tryz.underlying3 rfl rfl rfl rfl (fun w hw => hw.2.2.1) hj ?_
        ((conv => whnf); (repeat ((first | refine LdN.one (a := some ⟨cb, 0, none⟩) (q := 0) (xs := [_, _, _, _, _]) _ rfl (fun w hw => hw.2.1) rfl ?_ | refine LdN.one (a := some ⟨cb, 0, none⟩) (q := 1) (xs := [_, _, _, _, _]) _ rfl (fun w hw => hw.2.1) rfl ?_ | refine LdN.one (a := some ⟨cb, 0, none⟩) (q := 2) (xs := [_, _, _, _, _]) _ rfl (fun w hw => hw.2.1) rfl ?_ | refine LdN.one (a := some ⟨cb, 0, none⟩) (q := 3) (xs := [_, _, _, _, _]) _ rfl (fun w hw => hw.2.1) rfl ?_ | refine LdN.one (a := some ⟨cb, 0, none⟩) (q := 4) (xs := [_, _, _, _, _]) _ rfl (fun w hw => hw.2.1) rfl ?_ | refine RwN.own ?_ | refine VrN.norm (wrap_i64 (by omega)) ?_ | refine VrN.keep ?_ | refine DrawN.calm (by decide +kernel) ?_ | refine Nd.mk (by decide +kernel) ?_ | refine Nd.mk (by omega) ?_ | (refine Nd.mk ?_ ?_; focus ((repeat' (first | exact trivial | exact wkE_refl _ | refine And.intro ?_ ?_)); done)) | refine RdN.intro _ rfl (by rfl) ?_); (conv => whnf))))
        refine brd_dec (fun h => absurd h (by omega)) (fun _ => ?_)
        ((conv => whnf); (repeat ((first | refine LdN.one (a := some ⟨cb, 0, none⟩) (q := 0) (xs := [_, _, _, _, _]) _ rfl (fun w hw => hw.2.1) rfl ?_ | refine LdN.one (a := some ⟨cb, 0, none⟩) (q := 1) (xs := [_, _, _, _, _]) _ rfl (fun w hw => hw.2.1) rfl ?_ | refine LdN.one (a := some ⟨cb, 0, none⟩) (q := 2) (xs := [_, _, _, _, _]) _ rfl (fun w hw => hw.2.1) rfl ?_ | refine LdN.one (a := some ⟨cb, 0, none⟩) (q := 3) (xs := [_, _, _, _, _]) _ rfl (fun w hw => hw.2.1) rfl ?_ | refine LdN.one (a := some ⟨cb, 0, none⟩) (q := 4) (xs := [_, _, _, _, _]) _ rfl (fun w hw => hw.2.1) rfl ?_ | refine RwN.own ?_ | refine VrN.norm (wrap_i64 (by omega)) ?_ | refine VrN.keep ?_ | refine DrawN.calm (by decide +kernel) ?_ | refine Nd.mk (by decide +kernel) ?_ | refine Nd.mk (by omega) ?_ | (refine Nd.mk ?_ ?_; focus ((repeat' (first | exact trivial | exact wkE_refl _ | refine And.intro ?_ ?_)); done)) | refine RdN.intro _ rfl (by rfl) ?_); (conv => whnf))))
        refine brd_dec (fun _ => ?_) (fun h => absurd hk h)
        ((conv => whnf); (repeat ((first | refine LdN.one (a := some ⟨cb, 0, none⟩) (q := 0) (xs := [_, _, _, _, _]) _ rfl (fun w hw => hw.2.1) rfl ?_ | refine LdN.one (a := some ⟨cb, 0, none⟩) (q := 1) (xs := [_, _, _, _, _]) _ rfl (fun w hw => hw.2.1) rfl ?_ | refine LdN.one (a := some ⟨cb, 0, none⟩) (q := 2) (xs := [_, _, _, _, _]) _ rfl (fun w hw => hw.2.1) rfl ?_ | refine LdN.one (a := some ⟨cb, 0, none⟩) (q := 3) (xs := [_, _, _, _, _]) _ rfl (fun w hw => hw.2.1) rfl ?_ | refine LdN.one (a := some ⟨cb, 0, none⟩) (q := 4) (xs := [_, _, _, _, _]) _ rfl (fun w hw => hw.2.1) rfl ?_ | refine RwN.own ?_ | refine VrN.norm (wrap_i64 (by omega)) ?_ | refine VrN.keep ?_ | refine DrawN.calm (by decide +kernel) ?_ | refine Nd.mk (by decide +kernel) ?_ | refine Nd.mk (by omega) ?_ | (refine Nd.mk ?_ ?_; focus ((repeat' (first | exact trivial | exact wkE_refl _ | refine And.intro ?_ ?_)); done)) | refine RdN.intro _ rfl (by rfl) ?_); (conv => whnf))))
        exact out_bool (by
          have : ¬ kind ≤ 8 := by omega
          unfold Go.Core.plainS; simp [this])
      · -- what the map holds: nothing
        rw [show plWords text true true true 0 = none by unfold plWords; rw [if_neg (by omega), if_neg (by omega), if_neg (by omega)]] at hj
        ((conv => whnf); (repeat ((first | refine LdN.one (a := some ⟨cb, 0, none⟩) (q := 0) (xs := [_, _, _, _, _]) _ rfl (fun w hw => hw.2.1) rfl ?_ | refine LdN.one (a := some ⟨cb, 0, none⟩) (q := 1) (xs := [_, _, _, _, _]) _ rfl (fun w hw => hw.2.1) rfl ?_ | refine LdN.one (a := some ⟨cb, 0, none⟩) (q := 2) (xs := [_, _, _, _, _]) _ rfl (fun w hw => hw.2.1) rfl ?_ | refine LdN.one (a := some ⟨cb, 0, none⟩) (q := 3) (xs := [_, _, _, _, _]) _ rfl (fun w hw => hw.2.1) rfl ?_ | refine LdN.one (a := some ⟨cb, 0, none⟩) (q := 4) (xs := [_, _, _, _, _]) _ rfl (fun w hw => hw.2.1) rfl ?_ | refine RwN.own ?_ | refine VrN.norm (wrap_i64 (by omega)) ?_ | refine VrN.keep ?_ | refine DrawN.calm (by decide +kernel) ?_ | refine Nd.mk (by decide +kernel) ?_ | refine Nd.mk (by omega) ?_ | (refine Nd.mk ?_ ?_; focus ((repeat' (first | exact trivial | exact wkE_refl _ | refine And.intro ?_ ?_)); done)) | refine RdN.intro _ rfl (by rfl) ?_); (conv => whnf))))
        refine ReadW.askMap none rfl Tryz.underlying119 Tryz.underlying3 rfl rfl rfl rfl (fun w hw => hw.2.2.1) hj ?_
        ((conv => whnf); (repeat ((first | refine LdN.one (a := some ⟨cb, 0, none⟩) (q := 0) (xs := [_, _, _, _, _]) _ rfl (fun w hw => hw.2.1) rfl ?_ | refine LdN.one (a := some ⟨cb, 0, none⟩) (q := 1) (xs := [_, _, _, _, _]) _ rfl (fun w hw => hw.2.1) rfl ?_ | refine LdN.one (a := some ⟨cb, 0, none⟩) (q := 2) (xs := [_, _, _, _, _]) _ rfl (fun w hw => hw.2.1) rfl ?_ | refine LdN.one (a := some ⟨cb, 0, none⟩) (q := 3) (xs := [_, _, _, _, _]) _ rfl (fun w hw => hw.2.1) rfl ?_ | refine LdN.one (a := some ⟨cb, 0, none⟩) (q := 4) (xs := [_, _, _, _, _]) _ rfl (fun w hw => hw.2.1) rfl ?_ | refine RwN.own ?_ | refine VrN.norm (wrap_i64 (by omega)) ?_ | refine VrN.keep ?_ | refine DrawN.calm (by decide +kernel) ?_ | refine Nd.mk (by decide +kernel) ?_ | refine Nd.mk (by omega) ?_ | (refine Nd.mk ?_ ?_; focus ((repeat' (first | exact trivial | exact wkE_refl _ | refine And.intro ?_ ?_)); done)) | refine RdN.intro _ rfl (by rfl) ?_); (conv => whnf))))
        rw [bs_list]
        cases ht : text == ([] : List UInt8) with
        | false =>
          have ht0 : text ≠ [] := fun e => by rw [e] at ht; cases ht
          ((conv => whnf); (repeat ((first | refine LdN.one (a := some ⟨cb, 0, none⟩) (q := 0) (xs := [_, _, _, _, _]) _ rfl (fun w hw => hw.2.1) rfl ?_ | refine LdN.one (a := some ⟨cb, 0, none⟩) (q := 1) (xs := [_, _, _, _, _]) _ rfl (fun w hw => hw.2.1) rfl ?_ | refine LdN.one (a := some ⟨cb, 0, none⟩) (q := 2) (xs := [_, _, _, _, _]) _ rfl (fun w hw => hw.2.1) rfl ?_ | refine LdN.one (a := some ⟨cb, 0, none⟩) (q := 3) (xs := [_, _, _, _, _]) _ rfl (fun w hw => hw.2.1) rfl ?_ | refine LdN.one (a := some ⟨cb, 0, none⟩) (q := 4) (xs := [_, _, _, _, _]) _ rfl (fun w hw => hw.2.1) rfl ?_ | refine RwN.own ?_ | refine VrN.norm (wrap_i64 (by omega)) ?_ | refine VrN.keep ?_ | refine DrawN.calm (by decide +kernel) ?_ | refine Nd.mk (by decide +kernel) ?_ | refine Nd.mk (by omega) ?_ | (refine Nd.mk ?_ ?_; focus ((repeat' (first | exact trivial | exact wkE_refl _ | refine And.intro ?_ ?_)); done)) | refine RdN.intro _ rfl (by rfl) ?_); (conv => whnf))))
          exact out_bool (by unfold Go.Core.plainS; simp [ht0])
        | true =>
        have ht0 : text = [] := eq_of_beq ht
        ((conv => whnf); (repeat ((first | refine LdN.one (a := some ⟨cb, 0, none⟩) (q := 0) (xs := [_, _, _, _, _]) _ rfl (fun w hw => hw.2.1) rfl ?_ | refine LdN.one (a := some ⟨cb, 0, none⟩) (q := 1) (xs := [_, _, _, _, _]) _ rfl (fun w hw => hw.2.1) rfl ?_ | refine LdN.one (a := some ⟨cb, 0, none⟩) (q := 2) (xs := [_, _, _, _, _]) _ rfl (fun w hw => hw.2.1) rfl ?_ | refine LdN.one (a := some ⟨cb, 0, none⟩) (q := 3) (xs := [_, _, _, _, _]) _ rfl (fun w hw => hw.2.1) rfl ?_ | refine LdN.one (a := some ⟨cb, 0, none⟩) (q := 4) (xs := [_, _, _, _, _]) _ rfl (fun w hw => hw.2.1) rfl ?_ | refine RwN.own ?_ | refine VrN.norm (wrap_i64 (by omega)) ?_ | refine VrN.keep ?_ | refine DrawN.calm (by decide +kernel) ?_ | refine Nd.mk (by decide +kernel) ?_ | refine Nd.mk (by omega) ?_ | (refine Nd.mk ?_ ?_; focus ((repeat' (first | exact trivial | exact wkE_refl _ | refine And.intro ?_ ?_)); done)) | refine RdN.intro _ rfl (by rfl) ?_); (conv => whnf))))
        refine brd_ne (fun hu => ?_) (fun hu => ?_)
        · ((conv => whnf); (repeat ((first | refine LdN.one (a := some ⟨cb, 0, none⟩) (q := 0) (xs := [_, _, _, _, _]) _ rfl (fun w hw => hw.2.1) rfl ?_ | refine LdN.one (a := some ⟨cb, 0, none⟩) (q := 1) (xs := [_, _, _, _, _]) _ rfl (fun w hw => hw.2.1) rfl ?_ | refine LdN.one (a := some ⟨cb, 0, none⟩) (q := 2) (xs := [_, _, _, _, _]) _ rfl (fun w hw => hw.2.1) rfl ?_ | refine LdN.one (a := some ⟨cb, 0, none⟩) (q := 3) (xs := [_, _, _, _, _]) _ rfl (fun w hw => hw.2.1) rfl ?_ | refine LdN.one (a := some ⟨cb, 0, none⟩) (q := 4) (xs := [_, _, _, _, _]) _ rfl (fun w hw => hw.2.1) rfl ?_ | refine RwN.own ?_ | refine VrN.norm (wrap_i64 (by omega)) ?_ | refine VrN.keep ?_ | refine DrawN.calm (by decide +kernel) ?_ | refine Nd.mk (by decide +kernel) ?_ | refine Nd.mk (by omega) ?_ | (refine Nd.mk ?_ ?_; focus ((repeat' (first | exact trivial | exact wkE_refl _ | refine And.intro ?_ ?_)); done)) | refine RdN.intro _ rfl (by rfl) ?_); (conv => whnf))))
          exact out_bool (by unfold Go.Core.plainS; simp [hu])
        ((conv => whnf); (repeat ((first | refine LdN.one (a := some ⟨cb, 0, none⟩) (q := 0) (xs := [_, _, _, _, _]) _ rfl (fun w hw => hw.2.1) rfl ?_ | refine LdN.one (a := some ⟨cb, 0, none⟩) (q := 1) (xs := [_, _, _, _, _]) _ rfl (fun w hw => hw.2.1) rfl ?_ | refine LdN.one (a := some ⟨cb, 0, none⟩) (q := 2) (xs := [_, _, _, _, _]) _ rfl (fun w hw => hw.2.1) rfl ?_ | refine LdN.one (a := some ⟨cb, 0, none⟩) (q := 3) (xs := [_, _, _, _, _]) _ rfl (fun w hw => hw.2.1) rfl ?_ | refine LdN.one (a := some ⟨cb, 0, none⟩) (q := 4) (xs := [_, _, _, _, _]) _ rfl (fun w hw => hw.2.1) rfl ?_ | refine RwN.own ?_ | refine VrN.norm (wrap_i64 (by omega)) ?_ | refine VrN.keep ?_ | refine DrawN.calm (by decide +kernel) ?_ | refine Nd.mk (by decide +kernel) ?_ | refine Nd.mk (by omega) ?_ | (refine Nd.mk ?_ ?_; focus ((repeat' (first | exact trivial | exact wkE_refl _ | refine And.intro ?_ ?_)); done)) | refine RdN.intro _ rfl (by rfl) ?_); (conv => whnf))))
        refine brd_dec (fun h => absurd h (by omega)) (fun _ => ?_)
        ((conv => whnf); (repeat ((first | refine LdN.one (a := some ⟨cb, 0, none⟩) (q := 0) (xs := [_, _, _, _, _]) _ rfl (fun w hw => hw.2.1) rfl ?_ | refine LdN.one (a := some ⟨cb, 0, none⟩) (q := 1) (xs := [_, _, _, _, _]) _ rfl (fun w hw => hw.2.1) rfl ?_ | refine LdN.one (a := some ⟨cb, 0, none⟩) (q := 2) (xs := [_, _, _, _, _]) _ rfl (fun w hw => hw.2.1) rfl ?_ | refine LdN.one (a := some ⟨cb, 0, none⟩) (q := 3) (xs := [_, _, _, _, _]) _ rfl (fun w hw => hw.2.1) rfl ?_ | refine LdN.one (a := some ⟨cb, 0, none⟩) (q := 4) (xs := [_, _, _, _, _]) _ rfl (fun w hw => hw.2.1) rfl ?_ | refine RwN.own ?_ | refine VrN.norm (wrap_i64 (by omega)) ?_ | refine VrN.keep ?_ | refine DrawN.calm (by decide +kernel) ?_ | refine Nd.mk (by decide +kernel) ?_ | refine Nd.mk (by omega) ?_ | (refine Nd.mk ?_ ?_; focus ((repeat' (first | exact trivial | exact wkE_refl _ | refine And.intro ?_ ?_)); done)) | refine RdN.intro _ rfl (by rfl) ?_); (conv => whnf))))
        refine brd_dec (fun h => absurd h (by omega)) (fun _ => ?_)
        ((conv => whnf); (repeat ((first | refine LdN.one (a := some ⟨cb, 0, none⟩) (q := 0) (xs := [_, _, _, _, _]) _ rfl (fun w hw => hw.2.1) rfl ?_ | refine LdN.one (a := some ⟨cb, 0, none⟩) (q := 1) (xs := [_, _, _, _, _]) _ rfl (fun w hw => hw.2.1) rfl ?_ | refine LdN.one (a := some ⟨cb, 0, none⟩) (q := 2) (xs := [_, _, _, _, _]) _ rfl (fun w hw => hw.2.1) rfl ?_ | refine LdN.one (a := some ⟨cb, 0, none⟩) (q := 3) (xs := [_, _, _, _, _]) _ rfl (fun w hw => hw.2.1) rfl ?_ | refine LdN.one (a := some ⟨cb, 0, none⟩) (q := 4) (xs := [_, _, _, _, _]) _ rfl (fun w hw => hw.2.1) rfl ?_ | refine RwN.own ?_ | refine VrN.norm (wrap_i64 (by omega)) ?_ | refine VrN.keep ?_ | refine DrawN.calm (by decide +kernel) ?_ | refine Nd.mk (by decide +kernel) ?_ | refine Nd.mk (by omega) ?_ | (refine Nd.mk ?_ ?_; focus ((repeat' (first | exact trivial | exact wkE_refl _ | refine And.intro ?_ ?_)); done)) | refine RdN.intro _ rfl (by rfl) ?_); (conv => whnf))))
        -- 0: the kind, ht0, hu: what is known
        refine call1 (isLeaf_c 0 _) ?_
        ((conv => whnf); (repeat ((first | refine LdN.one (a := some ⟨cb, 0, none⟩) (q := 0) (xs := [_, _, _, _, _]) _ rfl (fun w hw => hw.2.1) rfl ?_ | refine LdN.one (a := some ⟨cb, 0, none⟩) (q := 1) (xs := [_, _, _, _, _]) _ rfl (fun w hw => hw.2.1) rfl ?_ | refine LdN.one (a := some ⟨cb, 0, none⟩) (q := 2) (xs := [_, _, _, _, _]) _ rfl (fun w hw => hw.2.1) rfl ?_ | refine LdN.one (a := some ⟨cb, 0, none⟩) (q := 3) (xs := [_, _, _, _, _]) _ rfl (fun w hw => hw.2.1) rfl ?_ | refine LdN.one (a := some ⟨cb, 0, none⟩) (q := 4) (xs := [_, _, _, _, _]) _ rfl (fun w hw => hw.2.1) rfl ?_ | refine RwN.own ?_ | refine VrN.norm (wrap_i64 (by omega)) ?_ | refine VrN.keep ?_ | refine DrawN.calm (by decide +kernel) ?_ | refine Nd.mk (by decide +kernel) ?_ | refine Nd.mk (by omega) ?_ | (refine Nd.mk ?_ ?_; focus ((repeat' (first | exact trivial | exact wkE_refl _ | refine And.intro ?_ ?_)); done)) | refine RdN.intro _ rfl (by rfl) ?_); (conv => whnf))))
        refine brd_eq (fun h1 => ?_) (fun h1 => ?_)
        · have hi0 : items = [] := List.eq_nil_of_length_eq_zero (by omega)
          ((conv => whnf); (repeat ((first | refine LdN.one (a := some ⟨cb, 0, none⟩) (q := 0) (xs := [_, _, _, _, _]) _ rfl (fun w hw => hw.2.1) rfl ?_ | refine LdN.one (a := some ⟨cb, 0, none⟩) (q := 1) (xs := [_, _, _, _, _]) _ rfl (fun w hw => hw.2.1) rfl ?_ | refine LdN.one (a := some ⟨cb, 0, none⟩) (q := 2) (xs := [_, _, _, _, _]) _ rfl (fun w hw => hw.2.1) rfl ?_ | refine LdN.one (a := some ⟨cb, 0, none⟩) (q := 3) (xs := [_, _, _, _, _]) _ rfl (fun w hw => hw.2.1) rfl ?_ | refine LdN.one (a := some ⟨cb, 0, none⟩) (q := 4) (xs := [_, _, _, _, _]) _ rfl (fun w hw => hw.2.1) rfl ?_ | refine RwN.own ?_ | refine VrN.norm (wrap_i64 (by omega)) ?_ | refine VrN.keep ?_ | refine DrawN.calm (by decide +kernel) ?_ | refine Nd.mk (by decide +kernel) ?_ | refine Nd.mk (by omega) ?_ | (refine Nd.mk ?_ ?_; focus ((repeat' (first | exact trivial | exact wkE_refl _ | refine And.intro ?_ ?_)); done)) | refine RdN.intro _ rfl (by rfl) ?_); (conv => whnf))))
          exact out_bool (by
            have hmx : -Go.Core.maxI ≤ 0 ∧ (0 : Int) ≤ Go.Core.maxI := by decide
            rw [Bool.eq_iff_iff]
            unfold Go.Core.plainS
            simp [hi0, ht0, hu, hmx]
            try exact ⟨fun h => List.eq_nil_of_length_eq_zero (by omega), fun h => by rw [h]; rfl⟩)
        · have hi0 : items ≠ [] := fun e => by rw [e] at h1; exact h1 rfl
          ((conv => whnf); (repeat ((first | refine LdN.one (a := some ⟨cb, 0, none⟩) (q := 0) (xs := [_, _, _, _, _]) _ rfl (fun w hw => hw.2.1) rfl ?_ | refine LdN.one (a := some ⟨cb, 0, none⟩) (q := 1) (xs := [_, _, _, _, _]) _ rfl (fun w hw => hw.2.1) rfl ?_ | refine LdN.one (a := some ⟨cb, 0, none⟩) (q := 2) (xs := [_, _, _, _, _]) _ rfl (fun w hw => hw.2.1) rfl ?_ | refine LdN.one (a := some ⟨cb, 0, none⟩) (q := 3) (xs := [_, _, _, _, _]) _ rfl (fun w hw => hw.2.1) rfl ?_ | refine LdN.one (a := some ⟨cb, 0, none⟩) (q := 4) (xs := [_, _, _, _, _]) _ rfl (fun w hw => hw.2.1) rfl ?_ | refine RwN.own ?_ | refine VrN.norm (wrap_i64 (by omega)) ?_ | refine VrN.keep ?_ | refine DrawN.calm (by decide +kernel) ?_ | refine Nd.mk (by decide +kernel) ?_ | refine Nd.mk (by omega) ?_ | (refine Nd.mk ?_ ?_; focus ((repeat' (first | exact trivial | exact wkE_refl _ | refine And.intro ?_ ?_)); done)) | refine RdN.intro _ rfl (by rfl) ?_); (conv => whnf))))
          exact out_bool (by unfold Go.Core.plainS; simp [hi0])
      · -- what the map holds: nothing
        rw [show plWords text true true true 1 = none by unfold plWords; rw [if_neg (by omega), if_neg (by omega), if_neg (by omega)]] at hj
        ((conv => whnf); (repeat ((first | refine LdN.one (a := some ⟨cb, 0, none⟩) (q := 0) (xs := [_, _, _, _, _]) _ rfl (fun w hw => hw.2.1) rfl ?_ | refine LdN.one (a := some ⟨cb, 0, none⟩) (q := 1) (xs := [_, _, _, _, _]) _ rfl (fun w hw => hw.2.1) rfl ?_ | refine LdN.one (a := some ⟨cb, 0, none⟩) (q := 2) (xs := [_, _, _, _, _]) _ rfl (fun w hw => hw.2.1) rfl ?_ | refine LdN.one (a := some ⟨cb, 0, none⟩) (q := 3) (xs := [_, _, _, _, _]) _ rfl (fun w hw => hw.2.1) rfl ?_ | refine LdN.one (a := some ⟨cb, 0, none⟩) (q := 4) (xs := [_, _, _, _, _]) _ rfl (fun w hw => hw.2.1) rfl ?_ | refine RwN.own ?_ | refine VrN.norm (wrap_i64 (by omega)) ?_ | refine VrN.keep ?_ | refine DrawN.calm (by decide +kernel) ?_ | refine Nd.mk (by decide +kernel) ?_ | refine Nd.mk (by omega) ?_ | (refine Nd.mk ?_ ?_; focus ((repeat' (first | exact trivial | exact wkE_refl _ | refine And.intro ?_ ?_)); done)) | refine RdN.intro _ rfl (by rfl) ?_); (conv => whnf))))
        refine ReadW.askMap none rfl Tryz.underlying119 Tryz.underlying3 rfl rfl rfl rfl (fun w hw => hw.2.2.1) hj ?_
        ((conv => whnf); (repeat ((first | refine LdN.one (a := some ⟨cb, 0, none⟩) (q := 0) (xs := [_, _, _, _, _]) _ rfl (fun w hw => hw.2.1) rfl ?_ | refine LdN.one (a := some ⟨cb, 0, none⟩) (q := 1) (xs := [_, _, _, _, _]) _ rfl (fun w hw => hw.2.1) rfl ?_ | refine LdN.one (a := some ⟨cb, 0, none⟩) (q := 2) (xs := [_, _, _, _, _]) _ rfl (fun w hw => hw.2.1) rfl ?_ | refine LdN.one (a := some ⟨cb, 0, none⟩) (q := 3) (xs := [_, _, _, _, _]) _ rfl (fun w hw => hw.2.1) rfl ?_ | refine LdN.one (a := some ⟨cb, 0, none⟩) (q := 4) (xs := [_, _, _, _, _]) _ rfl (fun w hw => hw.2.1) rfl ?_ | refine RwN.own ?_ | refine VrN.norm (wrap_i64 (by omega)) ?_ | refine VrN.keep ?_ | refine DrawN.calm (by decide +kernel) ?_ | refine Nd.mk (by decide +kernel) ?_ | refine Nd.mk (by omega) ?_ | (refine Nd.mk ?_ ?_; focus ((repeat' (first | exact trivial | exact wkE_refl _ | refine And.intro ?_ ?_)); done)) | refine RdN.intro _ rfl (by rfl) ?_); (conv => whnf))))
        rw [bs_list]
        cases ht : text == ([] : List UInt8) with
        | false =>
          have ht0 : text ≠ [] := fun e => by rw [e] at ht; cases ht
          ((conv => whnf); (repeat ((first | refine LdN.one (a := some ⟨cb, 0, none⟩) (q := 0) (xs := [_, _, _, _, _]) _ rfl (fun w hw => hw.2.1) rfl ?_ | refine LdN.one (a := some ⟨cb, 0, none⟩) (q := 1) (xs := [_, _, _, _, _]) _ rfl (fun w hw => hw.2.1) rfl ?_ | refine LdN.one (a := some ⟨cb, 0, none⟩) (q := 2) (xs := [_, _, _, _, _]) _ rfl (fun w hw => hw.2.1) rfl ?_ | refine LdN.one (a := some ⟨cb, 0, none⟩) (q := 3) (xs := [_, _, _, _, _]) _ rfl (fun w hw => hw.2.1) rfl ?_ | refine LdN.one (a := some ⟨cb, 0, none⟩) (q := 4) (xs := [_, _, _, _, _]) _ rfl (fun w hw => hw.2.1) rfl ?_ | refine RwN.own ?_ | refine VrN.norm (wrap_i64 (by omega)) ?_ | refine VrN.keep ?_ | refine DrawN.calm (by decide +kernel) ?_ | refine Nd.mk (by decide +kernel) ?_ | refine Nd.mk (by omega) ?_ | (refine Nd.mk ?_ ?_; focus ((repeat' (first | exact trivial | exact wkE_refl _ | refine And.intro ?_ ?_)); done)) | refine RdN.intro _ rfl (by rfl) ?_); (conv => whnf))))
          exact out_bool (by unfold Go.Core.plainS; simp [ht0])
        | true =>
        have ht0 : text = [] := eq_of_beq ht
        ((conv => whnf); (repeat ((first | refine LdN.one (a := some ⟨cb, 0, none⟩) (q := 0) (xs := [_, _, _, _, _]) _ rfl (fun w hw => hw.2.1) rfl ?_ | refine LdN.one (a := some ⟨cb, 0, none⟩) (q := 1) (xs := [_, _, _, _, _]) _ rfl (fun w hw => hw.2.1) rfl ?_ | refine LdN.one (a := some ⟨cb, 0, none⟩) (q := 2) (xs := [_, _, _, _, _]) _ rfl (fun w hw => hw.2.1) rfl ?_ | refine LdN.one (a := some ⟨cb, 0, none⟩) (q := 3) (xs := [_, _, _, _, _]) _ rfl (fun w hw => hw.2.1) rfl ?_ | refine LdN.one (a := some ⟨cb, 0, none⟩) (q := 4) (xs := [_, _, _, _, _]) _ rfl (fun w hw => hw.2.1) rfl ?_ | refine RwN.own ?_ | refine VrN.norm (wrap_i64 (by omega)) ?_ | refine VrN.keep ?_ | refine DrawN.calm (by decide +kernel) ?_ | refine Nd.mk (by decide +kernel) ?_ | refine Nd.mk (by omega) ?_ | (refine Nd.mk ?_ ?_; focus ((repeat' (first | exact trivial | exact wkE_refl _ | refine And.intro ?_ ?_)); done)) | refine RdN.intro _ rfl (by rfl) ?_); (conv => whnf))))
        refine brd_ne (fun hu => ?_) (fun hu => ?_)
        · ((conv => whnf); (repeat ((first | refine LdN.one (a := some ⟨cb, 0, none⟩) (q := 0) (xs := [_, _, _, _, _]) _ rfl (fun w hw => hw.2.1) rfl ?_ | refine LdN.one (a := some ⟨cb, 0, none⟩) (q := 1) (xs := [_, _, _, _, _]) _ rfl (fun w hw => hw.2.1) rfl ?_ | refine LdN.one (a := some ⟨cb, 0, none⟩) (q := 2) (xs := [_, _, _, _, _]) _ rfl (fun w hw => hw.2.1) rfl ?_ | refine LdN.one (a := some ⟨cb, 0, none⟩) (q := 3) (xs := [_, _, _, _, _]) _ rfl (fun w hw => hw.2.1) rfl ?_ | refine LdN.one (a := some ⟨cb, 0, none⟩) (q := 4) (xs := [_, _, _, _, _]) _ rfl (fun w hw => hw.2.1) rfl ?_ | refine RwN.own ?_ | refine VrN.norm (wrap_i64 (by omega)) ?_ | refine VrN.keep ?_ | refine DrawN.calm (by decide +kernel) ?_ | refine Nd.mk (by decide +kernel) ?_ | refine Nd.mk (by omega) ?_ | (refine Nd.mk ?_ ?_; focus ((repeat' (first | exact trivial | exact wkE_refl _ | refine And.intro ?_ ?_)); done)) | refine RdN.intro _ rfl (by rfl) ?_); (conv => whnf))))
          exact out_bool (by unfold Go.Core.plainS; simp [hu])
        ((conv => whnf); (repeat ((first | refine LdN.one (a := some ⟨cb, 0, none⟩) (q := 0) (xs := [_, _, _, _, _]) _ rfl (fun w hw => hw.2.1) rfl ?_ | refine LdN.one (a := some ⟨cb, 0, none⟩) (q := 1) (xs := [_, _, _, _, _]) _ rfl (fun w hw => hw.2.1) rfl ?_ | refine LdN.one (a := some ⟨cb, 0, none⟩) (q := 2) (xs := [_, _, _, _, _]) _ rfl (fun w hw => hw.2.1) rfl ?_ | refine LdN.one (a := some ⟨cb, 0, none⟩) (q := 3) (xs := [_, _, _, _, _]) _ rfl (fun w hw => hw.2.1) rfl ?_ | refine LdN.one (a := some ⟨cb, 0, none⟩) (q := 4) (xs := [_, _, _, _, _]) _ rfl (fun w hw => hw.2.1) rfl ?_ | refine RwN.own ?_ | refine VrN.norm (wrap_i64 (by omega)) ?_ | refine VrN.keep ?_ | refine DrawN.calm (by decide +kernel) ?_ | refine Nd.mk (by decide +kernel) ?_ | refine Nd.mk (by omega) ?_ | (refine Nd.mk ?_ ?_; focus ((repeat' (first | exact trivial | exact wkE_refl _ | refine And.intro ?_ ?_)); done)) | refine RdN.intro _ rfl (by rfl) ?_); (conv => whnf))))
        refine brd_dec (fun h => absurd h (by omega)) (fun _ => ?_)
        ((conv => whnf); (repeat ((first | refine LdN.one (a := some ⟨cb, 0, none⟩) (q := 0) (xs := [_, _, _, _, _]) _ rfl (fun w hw => hw.2.1) rfl ?_ | refine LdN.one (a := some ⟨cb, 0, none⟩) (q := 1) (xs := [_, _, _, _, _]) _ rfl (fun w hw => hw.2.1) rfl ?_ | refine LdN.one (a := some ⟨cb, 0, none⟩) (q := 2) (xs := [_, _, _, _, _]) _ rfl (fun w hw => hw.2.1) rfl ?_ | refine LdN.one (a := some ⟨cb, 0, none⟩) (q := 3) (xs := [_, _, _, _, _]) _ rfl (fun w hw => hw.2.1) rfl ?_ | refine LdN.one (a := some ⟨cb, 0, none⟩) (q := 4) (xs := [_, _, _, _, _]) _ rfl (fun w hw => hw.2.1) rfl ?_ | refine RwN.own ?_ | refine VrN.norm (wrap_i64 (by omega)) ?_ | refine VrN.keep ?_ | refine DrawN.calm (by decide +kernel) ?_ | refine Nd.mk (by decide +kernel) ?_ | refine Nd.mk (by omega) ?_ | (refine Nd.mk ?_ ?_; focus ((repeat' (first | exact trivial | exact wkE_refl _ | refine And.intro ?_ ?_)); done)) | refine RdN.intro _ rfl (by rfl) ?_); (conv => whnf))))
        refine brd_dec (fun h => absurd h (by omega)) (fun _ => ?_)
        ((conv => whnf); (repeat ((first | refine LdN.one (a := some ⟨cb, 0, none⟩) (q := 0) (xs := [_, _, _, _, _]) _ rfl (fun w hw => hw.2.1) rfl ?_ | refine LdN.one (a := some ⟨cb, 0, none⟩) (q := 1) (xs := [_, _, _, _, _]) _ rfl (fun w hw => hw.2.1) rfl ?_ | refine LdN.one (a := some ⟨cb, 0, none⟩) (q := 2) (xs := [_, _, _, _, _]) _ rfl (fun w hw => hw.2.1) rfl ?_ | refine LdN.one (a := some ⟨cb, 0, none⟩) (q := 3) (xs := [_, _, _, _, _]) _ rfl (fun w hw => hw.2.1) rfl ?_ | refine LdN.one (a := some ⟨cb, 0, none⟩) (q := 4) (xs := [_, _, _, _, _]) _ rfl (fun w hw => hw.2.1) rfl ?_ | refine RwN.own ?_ | refine VrN.norm (wrap_i64 (by omega)) ?_ | refine VrN.keep ?_ | refine DrawN.calm (by decide +kernel) ?_ | refine Nd.mk (by decide +kernel) ?_ | refine Nd.mk (by omega) ?_ | (refine Nd.mk ?_ ?_; focus ((repeat' (first | exact trivial | exact wkE_refl _ | refine And.intro ?_ ?_)); done)) | refine RdN.intro _ rfl (by rfl) ?_); (conv => whnf))))
        -- 1: the kind, ht0, hu: what is known
        refine call1 (isLeaf_c 1 _) ?_
        ((conv => whnf); (repeat ((first | refine LdN.one (a := some ⟨cb, 0, none⟩) (q := 0) (xs := [_, _, _, _, _]) _ rfl (fun w hw => hw.2.1) rfl ?_ | refine LdN.one (a := some ⟨cb, 0, none⟩) (q := 1) (xs := [_, _, _, _, _]) _ rfl (fun w hw => hw.2.1) rfl ?_ | refine LdN.one (a := some ⟨cb, 0, none⟩) (q := 2) (xs := [_, _, _, _, _]) _ rfl (fun w hw => hw.2.1) rfl ?_ | refine LdN.one (a := some ⟨cb, 0, none⟩) (q := 3) (xs := [_, _, _, _, _]) _ rfl (fun w hw => hw.2.1) rfl ?_ | refine LdN.one (a := some ⟨cb, 0, none⟩) (q := 4) (xs := [_, _, _, _, _]) _ rfl (fun w hw => hw.2.1) rfl ?_ | refine RwN.own ?_ | refine VrN.norm (wrap_i64 (by omega)) ?_ | refine VrN.keep ?_ | refine DrawN.calm (by decide +kernel) ?_ | refine Nd.mk (by decide +kernel) ?_ | refine Nd.mk (by omega) ?_ | (refine Nd.mk ?_ ?_; focus ((repeat' (first | exact trivial | exact wkE_refl _ | refine And.intro ?_ ?_)); done)) | refine RdN.intro _ rfl (by rfl) ?_); (conv => whnf))))
        refine brd_eq (fun h1 => ?_) (fun h1 => ?_)
        · have hi0 : items = [] := List.eq_nil_of_length_eq_zero (by omega)
          ((conv => whnf); (repeat ((first | refine LdN.one (a := some ⟨cb, 0, none⟩) (q := 0) (xs := [_, _, _, _, _]) _ rfl (fun w hw => hw.2.1) rfl ?_ | refine LdN.one (a := some ⟨cb, 0, none⟩) (q := 1) (xs := [_, _, _, _, _]) _ rfl (fun w hw => hw.2.1) rfl ?_ | refine LdN.one (a := some ⟨cb, 0, none⟩) (q := 2) (xs := [_, _, _, _, _]) _ rfl (fun w hw => hw.2.1) rfl ?_ | refine LdN.one (a := some ⟨cb, 0, none⟩) (q := 3) (xs := [_, _, _, _, _]) _ rfl (fun w hw => hw.2.1) rfl ?_ | refine LdN.one (a := some ⟨cb, 0, none⟩) (q := 4) (xs := [_, _, _, _, _]) _ rfl (fun w hw => hw.2.1) rfl ?_ | refine RwN.own ?_ | refine VrN.norm (wrap_i64 (by omega)) ?_ | refine VrN.keep ?_ | refine DrawN.calm (by decide +kernel) ?_ | refine Nd.mk (by decide +kernel) ?_ | refine Nd.mk (by omega) ?_ | (refine Nd.mk ?_ ?_; focus ((repeat' (first | exact trivial | exact wkE_refl _ | refine And.intro ?_ ?_)); done)) | refine RdN.intro _ rfl (by rfl) ?_); (conv => whnf))))
          exact out_bool (by
            have hmx : -Go.Core.maxI ≤ 0 ∧ (0 : Int) ≤ Go.Core.maxI := by decide
            rw [Bool.eq_iff_iff]
            unfold Go.Core.plainS
            simp [hi0, ht0, hu, hmx]
            try exact ⟨fun h => List.eq_nil_of_length_eq_zero (by omega), fun h => by rw [h]; rfl⟩)
        · have hi0 : items ≠ [] := fun e => by rw [e] at h1; exact h1 rfl
          ((conv => whnf); (repeat ((first | refine LdN.one (a := some ⟨cb, 0, none⟩) (q := 0) (xs := [_, _, _, _, _]) _ rfl (fun w hw => hw.2.1) rfl ?_ | refine LdN.one (a := some ⟨cb, 0, none⟩) (q := 1) (xs := [_, _, _, _, _]) _ rfl (fun w hw => hw.2.1) rfl ?_ | refine LdN.one (a := some ⟨cb, 0, none⟩) (q := 2) (xs := [_, _, _, _, _]) _ rfl (fun w hw => hw.2.1) rfl ?_ | refine LdN.one (a := some ⟨cb, 0, none⟩) (q := 3) (xs := [_, _, _, _, _]) _ rfl (fun w hw => hw.2.1) rfl ?_ | refine LdN.one (a := some ⟨cb, 0, none⟩) (q := 4) (xs := [_, _, _, _, _]) _ rfl (fun w hw => hw.2.1) rfl ?_ | refine RwN.own ?_ | refine VrN.norm (wrap_i64 (by omega)) ?_ | refine VrN.keep ?_ | refine DrawN.calm (by decide +kernel) ?_ | refine Nd.mk (by decide +kernel) ?_ | refine Nd.mk (by omega) ?_ | (refine Nd.mk ?_ ?_; focus ((repeat' (first | exact trivial | exact wkE_refl _ | refine And.intro ?_ ?_)); done)) | refine RdN.intro _ rfl (by rfl) ?_); (conv => whnf))))
          exact out_bool (by unfold Go.Core.plainS; simp [hi0])
      · -- what the map holds: nothing
        rw [show plWords text true true true 2 = none by unfold plWords; rw [if_neg (by omega), if_neg (by omega), if_neg (by omega)]] at hj
        ((conv => whnf); (repeat ((first | refine LdN.one (a := some ⟨cb, 0, none⟩) (q := 0) (xs := [_, _, _, _, _]) _ rfl (fun w hw => hw.2.1) rfl ?_ | refine LdN.one (a := some ⟨cb, 0, none⟩) (q := 1) (xs := [_, _, _, _, _]) _ rfl (fun w hw => hw.2.1) rfl ?_ | refine LdN.one (a := some ⟨cb, 0, none⟩) (q := 2) (xs := [_, _, _, _, _]) _ rfl (fun w hw => hw.2.1) rfl ?_ | refine LdN.one (a := some ⟨cb, 0, none⟩) (q := 3) (xs := [_, _, _, _, _]) _ rfl (fun w hw => hw.2.1) rfl ?_ | refine LdN.one (a := some ⟨cb, 0, none⟩) (q := 4) (xs := [_, _, _, _, _]) _ rfl (fun w hw => hw.2.1) rfl ?_ | refine RwN.own ?_ | refine VrN.norm (wrap_i64 (by omega)) ?_ | refine VrN.keep ?_ | refine DrawN.calm (by decide +kernel) ?_ | refine Nd.mk (by decide +kernel) ?_ | refine Nd.mk (by omega) ?_ | (refine Nd.mk ?_ ?_; focus ((repeat' (first | exact trivial | exact wkE_refl _ | refine And.intro ?_ ?_)); done)) | refine RdN.intro _ rfl (by rfl) ?_); (conv => whnf))))
        refine ReadW.askMap none rfl Tryz.underlying119 Tryz.underlying3 rfl rfl rfl rfl (fun w hw => hw.2.2.1) hj ?_
        ((conv => whnf); (repeat ((first | refine LdN.one (a := some ⟨cb, 0, none⟩) (q := 0) (xs := [_, _, _, _, _]) _ rfl (fun w hw => hw.2.1) rfl ?_ | refine LdN.one (a := some ⟨cb, 0, none⟩) (q := 1) (xs := [_, _, _, _, _]) _ rfl (fun w hw => hw.2.1) rfl ?_ | refine LdN.one (a := some ⟨cb, 0, none⟩) (q := 2) (xs := [_, _, _, _, _]) _ rfl (fun w hw => hw.2.1) rfl ?_ | refine LdN.one (a := some ⟨cb, 0, none⟩) (q := 3) (xs := [_, _, _, _, _]) _ rfl (fun w hw => hw.2.1) rfl ?_ | refine LdN.one (a := some ⟨cb, 0, none⟩) (q := 4) (xs := [_, _, _, _, _]) _ rfl (fun w hw => hw.2.1) rfl ?_ | refine RwN.own ?_ | refine VrN.norm (wrap_i64 (by omega)) ?_ | refine VrN.keep ?_ | refine DrawN.calm (by decide +kernel) ?_ | refine Nd.mk (by decide +kernel) ?_ | refine Nd.mk (by omega) ?_ | (refine Nd.mk ?_ ?_; focus ((repeat' (first | exact trivial | exact wkE_refl _ | refine And.intro ?_ ?_)); done)) | refine RdN.intro _ rfl (by rfl) ?_); (conv => whnf))))
        rw [bs_list]
        cases ht : text == ([] : List UInt8) with
        | false =>
          have ht0 : text ≠ [] := fun e => by rw [e] at ht; cases ht
          ((conv => whnf); (repeat ((first | refine LdN.one (a := some ⟨cb, 0, none⟩) (q := 0) (xs := [_, _, _, _, _]) _ rfl (fun w hw => hw.2.1) rfl ?_ | refine LdN.one (a := some ⟨cb, 0, none⟩) (q := 1) (xs := [_, _, _, _, _]) _ rfl (fun w hw => hw.2.1) rfl ?_ | refine LdN.one (a := some ⟨cb, 0, none⟩) (q := 2) (xs := [_, _, _, _, _]) _ rfl (fun w hw => hw.2.1) rfl ?_ | refine LdN.one (a := some ⟨cb, 0, none⟩) (q := 3) (xs := [_, _, _, _, _]) _ rfl (fun w hw => hw.2.1) rfl ?_ | refine LdN.one (a := some ⟨cb, 0, none⟩) (q := 4) (xs := [_, _, _, _, _]) _ rfl (fun w hw => hw.2.1) rfl ?_ | refine RwN.own ?_ | refine VrN.norm (wrap_i64 (by omega)) ?_ | refine VrN.keep ?_ | refine DrawN.calm (by decide +kernel) ?_ | refine Nd.mk (by decide +kernel) ?_ | refine Nd.mk (by omega) ?_ | (refine Nd.mk ?_ ?_; focus ((repeat' (first | exact trivial | exact wkE_refl _ | refine And.intro ?_ ?_)); done)) | refine RdN.intro _ rfl (by rfl) ?_); (conv => whnf))))
          exact out_bool (by unfold Go.Core.plainS; simp [ht0])
        | true =>
        have ht0 : text = [] := eq_of_beq ht
        ((conv => whnf); (repeat ((first | refine LdN.one (a := some ⟨cb, 0, none⟩) (q := 0) (xs := [_, _, _, _, _]) _ rfl (fun w hw => hw.2.1) rfl ?_ | refine LdN.one (a := some ⟨cb, 0, none⟩) (q := 1) (xs := [_, _, _, _, _]) _ rfl (fun w hw => hw.2.1) rfl ?_ | refine LdN.one (a := some ⟨cb, 0, none⟩) (q := 2) (xs := [_, _, _, _, _]) _ rfl (fun w hw => hw.2.1) rfl ?_ | refine LdN.one (a := some ⟨cb, 0, none⟩) (q := 3) (xs := [_, _, _, _, _]) _ rfl (fun w hw => hw.2.1) rfl ?_ | refine LdN.one (a := some ⟨cb, 0, none⟩) (q := 4) (xs := [_, _, _, _, _]) _ rfl (fun w hw => hw.2.1) rfl ?_ | refine RwN.own ?_ | refine VrN.norm (wrap_i64 (by omega)) ?_ | refine VrN.keep ?_ | refine DrawN.calm (by decide +kernel) ?_ | refine Nd.mk (by decide +kernel) ?_ | refine Nd.mk (by omega) ?_ | (refine Nd.mk ?_ ?_; focus ((repeat' (first | exact trivial | exact wkE_refl _ | refine And.intro ?_ ?_)); done)) | refine RdN.intro _ rfl (by rfl) ?_); (conv => whnf))))
        refine brd_ne (fun hu => ?_) (fun hu => ?_)
        · ((conv => whnf); (repeat ((first | refine LdN.one (a := some ⟨cb, 0, none⟩) (q := 0) (xs := [_, _, _, _, _]) _ rfl (fun w hw => hw.2.1) rfl ?_ | refine LdN.one (a := some ⟨cb, 0, none⟩) (q := 1) (xs := [_, _, _, _, _]) _ rfl (fun w hw => hw.2.1) rfl ?_ | refine LdN.one (a := some ⟨cb, 0, none⟩) (q := 2) (xs := [_, _, _, _, _]) _ rfl (fun w hw => hw.2.1) rfl ?_ | refine LdN.one (a := some ⟨cb, 0, none⟩) (q := 3) (xs := [_, _, _, _, _]) _ rfl (fun w hw => hw.2.1) rfl ?_ | refine LdN.one (a := some ⟨cb, 0, none⟩) (q := 4) (xs := [_, _, _, _, _]) _ rfl (fun w hw => hw.2.1) rfl ?_ | refine RwN.own ?_ | refine VrN.norm (wrap_i64 (by omega)) ?_ | refine VrN.keep ?_ | refine DrawN.calm (by decide +kernel) ?_ | refine Nd.mk (by decide +kernel) ?_ | refine Nd.mk (by omega) ?_ | (refine Nd.mk ?_ ?_; focus ((repeat' (first | exact trivial | exact wkE_refl _ | refine And.intro ?_ ?_)); done)) | refine RdN.intro _ rfl (by rfl) ?_); (conv => whnf))))
          exact out_bool (by unfold Go.Core.plainS; simp [hu])
        ((conv => whnf); (repeat ((first | refine LdN.one (a := some ⟨cb, 0, none⟩) (q := 0) (xs := [_, _, _, _, _]) _ rfl (fun w hw => hw.2.1) rfl ?_ | refine LdN.one (a := some ⟨cb, 0, none⟩) (q := 1) (xs := [_, _, _, _, _]) _ rfl (fun w hw => hw.2.1) rfl ?_ | refine LdN.one (a := some ⟨cb, 0, none⟩) (q := 2) (xs := [_, _, _, _, _]) _ rfl (fun w hw => hw.2.1) rfl ?_ | refine LdN.one (a := some ⟨cb, 0, none⟩) (q := 3) (xs := [_, _, _, _, _]) _ rfl (fun w hw => hw.2.1) rfl ?_ | refine LdN.one (a := some ⟨cb, 0, none⟩) (q := 4) (xs := [_, _, _, _, _]) _ rfl (fun w hw => hw.2.1) rfl ?_ | refine RwN.own ?_ | refine VrN.norm (wrap_i64 (by omega)) ?_ | refine VrN.keep ?_ | refine DrawN.calm (by decide +kernel) ?_ | refine Nd.mk (by decide +kernel) ?_ | refine Nd.mk (by omega) ?_ | (refine Nd.mk ?_ ?_; focus ((repeat' (first | exact trivial | exact wkE_refl _ | refine And.intro ?_ ?_)); done)) | refine RdN.intro _ rfl (by rfl) ?_); (conv => whnf))))
        refine brd_dec (fun h => absurd h (by omega)) (fun _ => ?_)
        ((conv => whnf); (repeat ((first | refine LdN.one (a := some ⟨cb, 0, none⟩) (q := 0) (xs := [_, _, _, _, _]) _ rfl (fun w hw => hw.2.1) rfl ?_ | refine LdN.one (a := some ⟨cb, 0, none⟩) (q := 1) (xs := [_, _, _, _, _]) _ rfl (fun w hw => hw.2.1) rfl ?_ | refine LdN.one (a := some ⟨cb, 0, none⟩) (q := 2) (xs := [_, _, _, _, _]) _ rfl (fun w hw => hw.2.1) rfl ?_ | refine LdN.one (a := some ⟨cb, 0, none⟩) (q := 3) (xs := [_, _, _, _, _]) _ rfl (fun w hw => hw.2.1) rfl ?_ | refine LdN.one (a := some ⟨cb, 0, none⟩) (q := 4) (xs := [_, _, _, _, _]) _ rfl (fun w hw => hw.2.1) rfl ?_ | refine RwN.own ?_ | refine VrN.norm (wrap_i64 (by omega)) ?_ | refine VrN.keep ?_ | refine DrawN.calm (by decide +kernel) ?_ | refine Nd.mk (by decide +kernel) ?_ | refine Nd.mk (by omega) ?_ | (refine Nd.mk ?_ ?_; focus ((repeat' (first | exact trivial | exact wkE_refl _ | refine And.intro ?_ ?_)); done)) | refine RdN.intro _ rfl (by rfl) ?_); (conv => whnf))))
        refine brd_dec (fun h => absurd h (by omega)) (fun _ => ?_)
        ((conv => whnf); (repeat ((first | refine LdN.one (a := some ⟨cb, 0, none⟩) (q := 0) (xs := [_, _, _, _, _]) _ rfl (fun w hw => hw.2.1) rfl ?_ | refine LdN.one (a := some ⟨cb, 0, none⟩) (q := 1) (xs := [_, _, _, _, _]) _ rfl (fun w hw => hw.2.1) rfl ?_ | refine LdN.one (a := some ⟨cb, 0, none⟩) (q := 2) (xs := [_, _, _, _, _]) _ rfl (fun w hw => hw.2.1) rfl ?_ | refine LdN.one (a := some ⟨cb, 0, none⟩) (q := 3) (xs := [_, _, _, _, _]) _ rfl (fun w hw => hw.2.1) rfl ?_ | refine LdN.one (a := some ⟨cb, 0, none⟩) (q := 4) (xs := [_, _, _, _, _]) _ rfl (fun w hw => hw.2.1) rfl ?_ | refine RwN.own ?_ | refine VrN.norm (wrap_i64 (by omega)) ?_ | refine VrN.keep ?_ | refine DrawN.calm (by decide +kernel) ?_ | refine Nd.mk (by decide +kernel) ?_ | refine Nd.mk (by omega) ?_ | (refine Nd.mk ?_ ?_; focus ((repeat' (first | exact trivial | exact wkE_refl _ | refine And.intro ?_ ?_)); done)) | refine RdN.intro _ rfl (by rfl) ?_); (conv => whnf))))
        -- 2: the kind, ht0, hu: what is known
        refine call1 (isLeaf_c 2 _) ?_
        ((conv => whnf); (repeat ((first | refine LdN.one (a := some ⟨cb, 0, none⟩) (q := 0) (xs := [_, _, _, _, _]) _ rfl (fun w hw => hw.2.1) rfl ?_ | refine LdN.one (a := some ⟨cb, 0, none⟩) (q := 1) (xs := [_, _, _, _, _]) _ rfl (fun w hw => hw.2.1) rfl ?_ | refine LdN.one (a := some ⟨cb, 0, none⟩) (q := 2) (xs := [_, _, _, _, _]) _ rfl (fun w hw => hw.2.1) rfl ?_ | refine LdN.one (a := some ⟨cb, 0, none⟩) (q := 3) (xs := [_, _, _, _, _]) _ rfl (fun w hw => hw.2.1) rfl ?_ | refine LdN.one (a := some ⟨cb, 0, none⟩) (q := 4) (xs := [_, _, _, _, _]) _ rfl (fun w hw => hw.2.1) rfl ?_ | refine RwN.own ?_ | refine VrN.norm (wrap_i64 (by omega)) ?_ | refine VrN.keep ?_ | refine DrawN.calm (by decide +kernel) ?_ | refine Nd.mk (by decide +kernel) ?_ | refine Nd.mk (by omega) ?_ | (refine Nd.mk ?_ ?_; focus ((repeat' (first | exact trivial | exact wkE_refl _ | refine And.intro ?_ ?_)); done)) | refine RdN.intro _ rfl (by rfl) ?_); (conv => whnf))))
        refine brd_eq (fun h1 => ?_) (fun h1 => ?_)
        · have hi0 : items = [] := List.eq_nil_of_length_eq_zero (by omega)
          ((conv => whnf); (repeat ((first | refine LdN.one (a := some ⟨cb, 0, none⟩) (q := 0) (xs := [_, _, _, _, _]) _ rfl (fun w hw => hw.2.1) rfl ?_ | refine LdN.one (a := some ⟨cb, 0, none⟩) (q := 1) (xs := [_, _, _, _, _]) _ rfl (fun w hw => hw.2.1) rfl ?_ | refine LdN.one (a := some ⟨cb, 0, none⟩) (q := 2) (xs := [_, _, _, _, _]) _ rfl (fun w hw => hw.2.1) rfl ?_ | refine LdN.one (a := some ⟨cb, 0, none⟩) (q := 3) (xs := [_, _, _, _, _]) _ rfl (fun w hw => hw.2.1) rfl ?_ | refine LdN.one (a := some ⟨cb, 0, none⟩) (q := 4) (xs := [_, _, _, _, _]) _ rfl (fun w hw => hw.2.1) rfl ?_ | refine RwN.own ?_ | refine VrN.norm (wrap_i64 (by omega)) ?_ | refine VrN.keep ?_ | refine DrawN.calm (by decide +kernel) ?_ | refine Nd.mk (by decide +kernel) ?_ | refine Nd.mk (by omega) ?_ | (refine Nd.mk ?_ ?_; focus ((repeat' (first | exact trivial | exact wkE_refl _ | refine And.intro ?_ ?_)); done)) | refine RdN.intro _ rfl (by rfl) ?_); (conv => whnf))))
          exact out_bool (by
            have hmx : -Go.Core.maxI ≤ 0 ∧ (0 : Int) ≤ Go.Core.maxI := by decide
            rw [Bool.eq_iff_iff]
            unfold Go.Core.plainS
            simp [hi0, ht0, hu, hmx]
            try exact ⟨fun h => List.eq_nil_of_length_eq_zero (by omega), fun h => by rw [h]; rfl⟩)
        · have hi0 : items ≠ [] := fun e => by rw [e] at h1; exact h1 rfl
          ((conv => whnf); (repeat ((first | refine LdN.one (a := some ⟨cb, 0, none⟩) (q := 0) (xs := [_, _, _, _, _]) _ rfl (fun w hw => hw.2.1) rfl ?_ | refine LdN.one (a := some ⟨cb, 0, none⟩) (q := 1) (xs := [_, _, _, _, _]) _ rfl (fun w hw => hw.2.1) rfl ?_ | refine LdN.one (a := some ⟨cb, 0, none⟩) (q := 2) (xs := [_, _, _, _, _]) _ rfl (fun w hw => hw.2.1) rfl ?_ | refine LdN.one (a := some ⟨cb, 0, none⟩) (q := 3) (xs := [_, _, _, _, _]) _ rfl (fun w hw => hw.2.1) rfl ?_ | refine LdN.one (a := some ⟨cb, 0, none⟩) (q := 4) (xs := [_, _, _, _, _]) _ rfl (fun w hw => hw.2.1) rfl ?_ | refine RwN.own ?_ | refine VrN.norm (wrap_i64 (by omega)) ?_ | refine VrN.keep ?_ | refine DrawN.calm (by decide +kernel) ?_ | refine Nd.mk (by decide +kernel) ?_ | refine Nd.mk (by omega) ?_ | (refine Nd.mk ?_ ?_; focus ((repeat' (first | exact trivial | exact wkE_refl _ | refine And.intro ?_ ?_)); done)) | refine RdN.intro _ rfl (by rfl) ?_); (conv => whnf))))
          exact out_bool (by unfold Go.Core.plainS; simp [hi0])
      · -- what the map holds: nothing
        rw [show plWords text true true true 3 = none by unfold plWords; rw [if_neg (by omega), if_neg (by omega), if_neg (by omega)]] at hj
        ((conv => whnf); (repeat ((first | refine LdN.one (a := some ⟨cb, 0, none⟩) (q := 0) (xs := [_, _, _, _, _]) _ rfl (fun w hw => hw.2.1) rfl ?_ | refine LdN.one (a := some ⟨cb, 0, none⟩) (q := 1) (xs := [_, _, _, _, _]) _ rfl (fun w hw => hw.2.1) rfl ?_ | refine LdN.one (a := some ⟨cb, 0, none⟩) (q := 2) (xs := [_, _, _, _, _]) _ rfl (fun w hw => hw.2.1) rfl ?_ | refine LdN.one (a := some ⟨cb, 0, none⟩) (q := 3) (xs := [_, _, _, _, _]) _ rfl (fun w hw => hw.2.1) rfl ?_ | refine LdN.one (a := some ⟨cb, 0, none⟩) (q := 4) (xs := [_, _, _, _, _]) _ rfl (fun w hw => hw.2.1) rfl ?_ | refine RwN.own ?_ | refine VrN.norm (wrap_i64 (by omega)) ?_ | refine VrN.keep ?_ | refine DrawN.calm (by decide +kernel) ?_ | refine Nd.mk (by decide +kernel) ?_ | refine Nd.mk (by omega) ?_ | (refine Nd.mk ?_ ?_; focus ((repeat' (first | exact trivial | exact wkE_refl _ | refine And.intro ?_ ?_)); done)) | refine RdN.intro _ rfl (by rfl) ?_); (conv => whnf))))
        refine ReadW.askMap none rfl Tryz.underlying119 Tryz.underlying3 rfl rfl rfl rfl (fun w hw => hw.2.2.1) hj ?_
        ((conv => whnf); (repeat ((first | refine LdN.one (a := some ⟨cb, 0, none⟩) (q := 0) (xs := [_, _, _, _, _]) _ rfl (fun w hw => hw.2.1) rfl ?_ | refine LdN.one (a := some ⟨cb, 0, none⟩) (q := 1) (xs := [_, _, _, _, _]) _ rfl (fun w hw => hw.2.1) rfl ?_ | refine LdN.one (a := some ⟨cb, 0, none⟩) (q := 2) (xs := [_, _, _, _, _]) _ rfl (fun w hw => hw.2.1) rfl ?_ | refine LdN.one (a := some ⟨cb, 0, none⟩) (q := 3) (xs := [_, _, _, _, _]) _ rfl (fun w hw => hw.2.1) rfl ?_ | refine LdN.one (a := some ⟨cb, 0, none⟩) (q := 4) (xs := [_, _, _, _, _]) _ rfl (fun w hw => hw.2.1) rfl ?_ | refine RwN.own ?_ | refine VrN.norm (wrap_i64 (by omega)) ?_ | refine VrN.keep ?_ | refine DrawN.calm (by decide +kernel) ?_ | refine Nd.mk (by decide +kernel) ?_ | refine Nd.mk (by omega) ?_ | (refine Nd.mk ?_ ?_; focus ((repeat' (first | exact trivial | exact wkE_refl _ | refine And.intro ?_ ?_)); done)) | refine RdN.intro _ rfl (by rfl) ?_); (conv => whnf))))
        rw [bs_list]
        cases ht : text == ([] : List UInt8) with
        | false =>
          have ht0 : text ≠ [] := fun e => by rw [e] at ht; cases ht
          ((conv => whnf); (repeat ((first | refine LdN.one (a := some ⟨cb, 0, none⟩) (q := 0) (xs := [_, _, _, _, _]) _ rfl (fun w hw => hw.2.1) rfl ?_ | refine LdN.one (a := some ⟨cb, 0, none⟩) (q := 1) (xs := [_, _, _, _, _]) _ rfl (fun w hw => hw.2.1) rfl ?_ | refine LdN.one (a := some ⟨cb, 0, none⟩) (q := 2) (xs := [_, _, _, _, _]) _ rfl (fun w hw => hw.2.1) rfl ?_ | refine LdN.one (a := some ⟨cb, 0, none⟩) (q := 3) (xs := [_, _, _, _, _]) _ rfl (fun w hw => hw.2.1) rfl ?_ | refine LdN.one (a := some ⟨cb, 0, none⟩) (q := 4) (xs := [_, _, _, _, _]) _ rfl (fun w hw => hw.2.1) rfl ?_ | refine RwN.own ?_ | refine VrN.norm (wrap_i64 (by omega)) ?_ | refine VrN.keep ?_ | refine DrawN.calm (by decide +kernel) ?_ | refine Nd.mk (by decide +kernel) ?_ | refine Nd.mk (by omega) ?_ | (refine Nd.mk ?_ ?_; focus ((repeat' (first | exact trivial | exact wkE_refl _ | refine And.intro ?_ ?_)); done)) | refine RdN.intro _ rfl (by rfl) ?_); (conv => whnf))))
          exact out_bool (by unfold Go.Core.plainS; simp [ht0])
        | true =>
        have ht0 : text = [] := eq_of_beq ht
        ((conv => whnf); (repeat ((first | refine LdN.one (a := some ⟨cb, 0, none⟩) (q := 0) (xs := [_, _, _, _, _]) _ rfl (fun w hw => hw.2.1) rfl ?_ | refine LdN.one (a := some ⟨cb, 0, none⟩) (q := 1) (xs := [_, _, _, _, _]) _ rfl (fun w hw => hw.2.1) rfl ?_ | refine LdN.one (a := some ⟨cb, 0, none⟩) (q := 2) (xs := [_, _, _, _, _]) _ rfl (fun w hw => hw.2.1) rfl ?_ | refine LdN.one (a := some ⟨cb, 0, none⟩) (q := 3) (xs := [_, _, _, _, _]) _ rfl (fun w hw => hw.2.1) rfl ?_ | refine LdN.one (a := some ⟨cb, 0, none⟩) (q := 4) (xs := [_, _, _, _, _]) _ rfl (fun w hw => hw.2.1) rfl ?_ | refine RwN.own ?_ | refine VrN.norm (wrap_i64 (by omega)) ?_ | refine VrN.keep ?_ | refine DrawN.calm (by decide +kernel) ?_ | refine Nd.mk (by decide +kernel) ?_ | refine Nd.mk (by omega) ?_ | (refine Nd.mk ?_ ?_; focus ((repeat' (first | exact trivial | exact wkE_refl _ | refine And.intro ?_ ?_)); done)) | refine RdN.intro _ rfl (by rfl) ?_); (conv => whnf))))
        refine brd_dec (fun hb1 => ?_) (fun hb1 => ?_)
        · ((conv => whnf); (repeat ((first | refine LdN.one (a := some ⟨cb, 0, none⟩) (q := 0) (xs := [_, _, _, _, _]) _ rfl (fun w hw => hw.2.1) rfl ?_ | refine LdN.one (a := some ⟨cb, 0, none⟩) (q := 1) (xs := [_, _, _, _, _]) _ rfl (fun w hw => hw.2.1) rfl ?_ | refine LdN.one (a := some ⟨cb, 0, none⟩) (q := 2) (xs := [_, _, _, _, _]) _ rfl (fun w hw => hw.2.1) rfl ?_ | refine LdN.one (a := some ⟨cb, 0, none⟩) (q := 3) (xs := [_, _, _, _, _]) _ rfl (fun w hw => hw.2.1) rfl ?_ | refine LdN.one (a := some ⟨cb, 0, none⟩) (q := 4) (xs := [_, _, _, _, _]) _ rfl (fun w hw => hw.2.1) rfl ?_ | refine RwN.own ?_ | refine VrN.norm (wrap_i64 (by omega)) ?_ | refine VrN.keep ?_ | refine DrawN.calm (by decide +kernel) ?_ | refine Nd.mk (by decide +kernel) ?_ | refine Nd.mk (by omega) ?_ | (refine Nd.mk ?_ ?_; focus ((repeat' (first | exact trivial | exact wkE_refl _ | refine And.intro ?_ ?_)); done)) | refine RdN.intro _ rfl (by rfl) ?_); (conv => whnf))))
          exact out_bool (by
            have : ¬ (-Go.Core.maxI ≤ num) := by show ¬ (-1000000000000000 ≤ num); omega
            unfold Go.Core.plainS; simp [this])
        ((conv => whnf); (repeat ((first | refine LdN.one (a := some ⟨cb, 0, none⟩) (q := 0) (xs := [_, _, _, _, _]) _ rfl (fun w hw => hw.2.1) rfl ?_ | refine LdN.one (a := some ⟨cb, 0, none⟩) (q := 1) (xs := [_, _, _, _, _]) _ rfl (fun w hw => hw.2.1) rfl ?_ | refine LdN.one (a := some ⟨cb, 0, none⟩) (q := 2) (xs := [_, _, _, _, _]) _ rfl (fun w hw => hw.2.1) rfl ?_ | refine LdN.one (a := some ⟨cb, 0, none⟩) (q := 3) (xs := [_, _, _, _, _]) _ rfl (fun w hw => hw.2.1) rfl ?_ | refine LdN.one (a := some ⟨cb, 0, none⟩) (q := 4) (xs := [_, _, _, _, _]) _ rfl (fun w hw => hw.2.1) rfl ?_ | refine RwN.own ?_ | refine VrN.norm (wrap_i64 (by omega)) ?_ | refine VrN.keep ?_ | refine DrawN.calm (by decide +kernel) ?_ | refine Nd.mk (by decide +kernel) ?_ | refine Nd.mk (by omega) ?_ | (refine Nd.mk ?_ ?_; focus ((repeat' (first | exact trivial | exact wkE_refl _ | refine And.intro ?_ ?_)); done)) | refine RdN.intro _ rfl (by rfl) ?_); (conv => whnf))))
        refine brd_dec (fun hb2 => ?_) (fun hb2 => ?_)
        · ((conv => whnf); (repeat ((first | refine LdN.one (a := some ⟨cb, 0, none⟩) (q := 0) (xs := [_, _, _, _, _]) _ rfl (fun w hw => hw.2.1) rfl ?_ | refine LdN.one (a := some ⟨cb, 0, none⟩) (q := 1) (xs := [_, _, _, _, _]) _ rfl (fun w hw => hw.2.1) rfl ?_ | refine LdN.one (a := some ⟨cb, 0, none⟩) (q := 2) (xs := [_, _, _, _, _]) _ rfl (fun w hw => hw.2.1) rfl ?_ | refine LdN.one (a := some ⟨cb, 0, none⟩) (q := 3) (xs := [_, _, _, _, _]) _ rfl (fun w hw => hw.2.1) rfl ?_ | refine LdN.one (a := some ⟨cb, 0, none⟩) (q := 4) (xs := [_, _, _, _, _]) _ rfl (fun w hw => hw.2.1) rfl ?_ | refine RwN.own ?_ | refine VrN.norm (wrap_i64 (by omega)) ?_ | refine VrN.keep ?_ | refine DrawN.calm (by decide +kernel) ?_ | refine Nd.mk (by decide +kernel) ?_ | refine Nd.mk (by omega) ?_ | (refine Nd.mk ?_ ?_; focus ((repeat' (first | exact trivial | exact wkE_refl _ | refine And.intro ?_ ?_)); done)) | refine RdN.intro _ rfl (by rfl) ?_); (conv => whnf))))
          exact out_bool (by
            have : ¬ (num ≤ Go.Core.maxI) := by show ¬ (num ≤ 1000000000000000); omega
            unfold Go.Core.plainS; simp [this])
        ((conv => whnf); (repeat ((first | refine LdN.one (a := some ⟨cb, 0, none⟩) (q := 0) (xs := [_, _, _, _, _]) _ rfl (fun w hw => hw.2.1) rfl ?_ | refine LdN.one (a := some ⟨cb, 0, none⟩) (q := 1) (xs := [_, _, _, _, _]) _ rfl (fun w hw => hw.2.1) rfl ?_ | refine LdN.one (a := some ⟨cb, 0, none⟩) (q := 2) (xs := [_, _, _, _, _]) _ rfl (fun w hw => hw.2.1) rfl ?_ | refine LdN.one (a := some ⟨cb, 0, none⟩) (q := 3) (xs := [_, _, _, _, _]) _ rfl (fun w hw => hw.2.1) rfl ?_ | refine LdN.one (a := some ⟨cb, 0, none⟩) (q := 4) (xs := [_, _, _, _, _]) _ rfl (fun w hw => hw.2.1) rfl ?_ | refine RwN.own ?_ | refine VrN.norm (wrap_i64 (by omega)) ?_ | refine VrN.keep ?_ | refine DrawN.calm (by decide +kernel) ?_ | refine Nd.mk (by decide +kernel) ?_ | refine Nd.mk (by omega) ?_ | (refine Nd.mk ?_ ?_; focus ((repeat' (first | exact trivial | exact wkE_refl _ | refine And.intro ?_ ?_)); done)) | refine RdN.intro _ rfl (by rfl) ?_); (conv => whnf))))
        have hq1 : -Go.Core.maxI ≤ num := by show -1000000000000000 ≤ num; omega
        have hq2 : num ≤ Go.Core.maxI := by show num ≤ 1000000000000000; omega
        -- 3: the kind, ht0, hq1, hq2: what is known
        refine call1 (isLeaf_c 3 _) ?_
        ((conv => whnf); (repeat ((first | refine LdN.one (a := some ⟨cb, 0, none⟩) (q := 0) (xs := [_, _, _, _, _]) _ rfl (fun w hw => hw.2.1) rfl ?_ | refine LdN.one (a := some ⟨cb, 0, none⟩) (q := 1) (xs := [_, _, _, _, _]) _ rfl (fun w hw => hw.2.1) rfl ?_ | refine LdN.one (a := some ⟨cb, 0, none⟩) (q := 2) (xs := [_, _, _, _, _]) _ rfl (fun w hw => hw.2.1) rfl ?_ | refine LdN.one (a := some ⟨cb, 0, none⟩) (q := 3) (xs := [_, _, _, _, _]) _ rfl (fun w hw => hw.2.1) rfl ?_ | refine LdN.one (a := some ⟨cb, 0, none⟩) (q := 4) (xs := [_, _, _, _, _]) _ rfl (fun w hw => hw.2.1) rfl ?_ | refine RwN.own ?_ | refine VrN.norm (wrap_i64 (by omega)) ?_ | refine VrN.keep ?_ | refine DrawN.calm (by decide +kernel) ?_ | refine Nd.mk (by decide +kernel) ?_ | refine Nd.mk (by omega) ?_ | (refine Nd.mk ?_ ?_; focus ((repeat' (first | exact trivial | exact wkE_refl _ | refine And.intro ?_ ?_)); done)) | refine RdN.intro _ rfl (by rfl) ?_); (conv => whnf))))
        refine brd_eq (fun h1 => ?_) (fun h1 => ?_)
        · have hi0 : items = [] := List.eq_nil_of_length_eq_zero (by omega)
          ((conv => whnf); (repeat ((first | refine LdN.one (a := some ⟨cb, 0, none⟩) (q := 0) (xs := [_, _, _, _, _]) _ rfl (fun w hw => hw.2.1) rfl ?_ | refine LdN.one (a := some ⟨cb, 0, none⟩) (q := 1) (xs := [_, _, _, _, _]) _ rfl (fun w hw => hw.2.1) rfl ?_ | refine LdN.one (a := some ⟨cb, 0, none⟩) (q := 2) (xs := [_, _, _, _, _]) _ rfl (fun w hw => hw.2.1) rfl ?_ | refine LdN.one (a := some ⟨cb, 0, none⟩) (q := 3) (xs := [_, _, _, _, _]) _ rfl (fun w hw => hw.2.1) rfl ?_ | refine LdN.one (a := some ⟨cb, 0, none⟩) (q := 4) (xs := [_, _, _, _, _]) _ rfl (fun w hw => hw.2.1) rfl ?_ | refine RwN.own ?_ | refine VrN.norm (wrap_i64 (by omega)) ?_ | refine VrN.keep ?_ | refine DrawN.calm (by decide +kernel) ?_ | refine Nd.mk (by decide +kernel) ?_ | refine Nd.mk (by omega) ?_ | (refine Nd.mk ?_ ?_; focus ((repeat' (first | exact trivial | exact wkE_refl _ | refine And.intro ?_ ?_)); done)) | refine RdN.intro _ rfl (by rfl) ?_); (conv => whnf))))
          exact out_bool (by
            have hmx : -Go.Core.maxI ≤ 0 ∧ (0 : Int) ≤ Go.Core.maxI := by decide
            rw [Bool.eq_iff_iff]
            unfold Go.Core.plainS
            simp [hi0, ht0, hq1, hq2, hmx]
            try exact ⟨fun h => List.eq_nil_of_length_eq_zero (by omega), fun h => by rw [h]; rfl⟩)
        · have hi0 : items ≠ [] := fun e => by rw [e] at h1; exact h1 rfl
          ((conv => whnf); (repeat ((first | refine LdN.one (a := some ⟨cb, 0, none⟩) (q := 0) (xs := [_, _, _, _, _]) _ rfl (fun w hw => hw.2.1) rfl ?_ | refine LdN.one (a := some ⟨cb, 0, none⟩) (q := 1) (xs := [_, _, _, _, _]) _ rfl (fun w hw => hw.2.1) rfl ?_ | refine LdN.one (a := some ⟨cb, 0, none⟩) (q := 2) (xs := [_, _, _, _, _]) _ rfl (fun w hw => hw.2.1) rfl ?_ | refine LdN.one (a := some ⟨cb, 0, none⟩) (q := 3) (xs := [_, _, _, _, _]) _ rfl (fun w hw => hw.2.1) rfl ?_ | refine LdN.one (a := some ⟨cb, 0, none⟩) (q := 4) (xs := [_, _, _, _, _]) _ rfl (fun w hw => hw.2.1) rfl ?_ | refine RwN.own ?_ | refine VrN.norm (wrap_i64 (by omega)) ?_ | refine VrN.keep ?_ | refine DrawN.calm (by decide +kernel) ?_ | refine Nd.mk (by decide +kernel) ?_ | refine Nd.mk (by omega) ?_ | (refine Nd.mk ?_ ?_; focus ((repeat' (first | exact trivial | exact wkE_refl _ | refine And.intro ?_ ?_)); done)) | refine RdN.intro _ rfl (by rfl) ?_); (conv => whnf))))
          exact out_bool (by unfold Go.Core.plainS; simp [hi0])
      · -- 4: the kind, decide ((text.length : Int) ≤ 2000): what the map holds
        rw [show plWords text true true true 4 = some (.bool (decide ((text.length : Int) ≤ 2000))) by simp [plWords]] at hj
        ((conv => whnf); (repeat ((first | refine LdN.one (a := some ⟨cb, 0, none⟩) (q := 0) (xs := [_, _, _, _, _]) _ rfl (fun w hw => hw.2.1) rfl ?_ | refine LdN.one (a := some ⟨cb, 0, none⟩) (q := 1) (xs := [_, _, _, _, _]) _ rfl (fun w hw => hw.2.1) rfl ?_ | refine LdN.one (a := some ⟨cb, 0, none⟩) (q := 2) (xs := [_, _, _, _, _]) _ rfl (fun w hw => hw.2.1) rfl ?_ | refine LdN.one (a := some ⟨cb, 0, none⟩) (q := 3) (xs := [_, _, _, _, _]) _ rfl (fun w hw => hw.2.1) rfl ?_ | refine LdN.one (a := some ⟨cb, 0, none⟩) (q := 4) (xs := [_, _, _, _, _]) _ rfl (fun w hw => hw.2.1) rfl ?_ | refine RwN.own ?_ | refine VrN.norm (wrap_i64 (by omega)) ?_ | refine VrN.keep ?_ | refine DrawN.calm (by decide +kernel) ?_ | refine Nd.mk (by decide +kernel) ?_ | refine Nd.mk (by omega) ?_ | (refine Nd.mk ?_ ?_; focus ((repeat' (first | exact trivial | exact wkE_refl _ | refine And.intro ?_ ?_)); done)) | refine RdN.intro _ rfl (by rfl) ?_); (conv => whnf))))
        refine ReadW.askMap (some (j, .bool (decide ((text.length : Int) ≤ 2000)))) rfl Tryz.underlying119 Tryz.underlying3 rfl rfl rfl rfl (fun w hw => hw.2.2.1) hj ?_
        ((conv => whnf); (repeat ((first | refine LdN.one (a := some ⟨cb, 0, none⟩) (q := 0) (xs := [_, _, _, _, _]) _ rfl (fun w hw => hw.2.1) rfl ?_ | refine LdN.one (a := some ⟨cb, 0, none⟩) (q := 1) (xs := [_, _, _, _, _]) _ rfl (fun w hw => hw.2.1) rfl ?_ | refine LdN.one (a := some ⟨cb, 0, none⟩) (q := 2) (xs := [_, _, _, _, _]) _ rfl (fun w hw => hw.2.1) rfl ?_ | refine LdN.one (a := some ⟨cb, 0, none⟩) (q := 3) (xs := [_, _, _, _, _]) _ rfl (fun w hw => hw.2.1) rfl ?_ | refine LdN.one (a := some ⟨cb, 0, none⟩) (q := 4) (xs := [_, _, _, _, _]) _ rfl (fun w hw => hw.2.1) rfl ?_ | refine RwN.own ?_ | refine VrN.norm (wrap_i64 (by omega)) ?_ | refine VrN.keep ?_ | refine DrawN.calm (by decide +kernel) ?_ | refine Nd.mk (by decide +kernel) ?_ | refine Nd.mk (by omega) ?_ | (refine Nd.mk ?_ ?_; focus ((repeat' (first | exact trivial | exact wkE_refl _ | refine And.intro ?_ ?_)); done)) | refine RdN.intro _ rfl (by rfl) ?_); (conv => whnf))))
        cases hf : decide ((text.length : Int) ≤ 2000) with
        | false =>
          ((conv => whnf); (repeat ((first | refine LdN.one (a := some ⟨cb, 0, none⟩) (q := 0) (xs := [_, _, _, _, _]) _ rfl (fun w hw => hw.2.1) rfl ?_ | refine LdN.one (a := some ⟨cb, 0, none⟩) (q := 1) (xs := [_, _, _, _, _]) _ rfl (fun w hw => hw.2.1) rfl ?_ | refine LdN.one (a := some ⟨cb, 0, none⟩) (q := 2) (xs := [_, _, _, _, _]) _ rfl (fun w hw => hw.2.1) rfl ?_ | refine LdN.one (a := some ⟨cb, 0, none⟩) (q := 3) (xs := [_, _, _, _, _]) _ rfl (fun w hw => hw.2.1) rfl ?_ | refine LdN.one (a := some ⟨cb, 0, none⟩) (q := 4) (xs := [_, _, _, _, _]) _ rfl (fun w hw => hw.2.1) rfl ?_ | refine RwN.own ?_ | refine VrN.norm (wrap_i64 (by omega)) ?_ | refine VrN.keep ?_ | refine DrawN.calm (by decide +kernel) ?_ | refine Nd.mk (by decide +kernel) ?_ | refine Nd.mk (by omega) ?_ | (refine Nd.mk ?_ ?_; focus ((repeat' (first | exact trivial | exact wkE_refl _ | refine And.intro ?_ ?_)); done)) | refine RdN.intro _ rfl (by rfl) ?_); (conv => whnf))))
          exact out_bool (by unfold Go.Core.plainS; simp [show ¬ text.length ≤ 2000 from fun h => of_decide_eq_false hf (by omega)])
        | true =>
        ((conv => whnf); (repeat ((first | refine LdN.one (a := some ⟨cb, 0, none⟩) (q := 0) (xs := [_, _, _, _, _]) _ rfl (fun w hw => hw.2.1) rfl ?_ | refine LdN.one (a := some ⟨cb, 0, none⟩) (q := 1) (xs := [_, _, _, _, _]) _ rfl (fun w hw => hw.2.1) rfl ?_ | refine LdN.one (a := some ⟨cb, 0, none⟩) (q := 2) (xs := [_, _, _, _, _]) _ rfl (fun w hw => hw.2.1) rfl ?_ | refine LdN.one (a := some ⟨cb, 0, none⟩) (q := 3) (xs := [_, _, _, _, _]) _ rfl (fun w hw => hw.2.1) rfl ?_ | refine LdN.one (a := some ⟨cb, 0, none⟩) (q := 4) (xs := [_, _, _, _, _]) _ rfl (fun w hw => hw.2.1) rfl ?_ | refine RwN.own ?_ | refine VrN.norm (wrap_i64 (by omega)) ?_ | refine VrN.keep ?_ | refine DrawN.calm (by decide +kernel) ?_ | refine Nd.mk (by decide +kernel) ?_ | refine Nd.mk (by omega) ?_ | (refine Nd.mk ?_ ?_; focus ((repeat' (first | exact trivial | exact wkE_refl _ | refine And.intro ?_ ?_)); done)) | refine RdN.intro _ rfl (by rfl) ?_); (conv => whnf))))
        refine brd_ne (fun hu => ?_) (fun hu => ?_)
        · ((conv => whnf); (repeat ((first | refine LdN.one (a := some ⟨cb, 0, none⟩) (q := 0) (xs := [_, _, _, _, _]) _ rfl (fun w hw => hw.2.1) rfl ?_ | refine LdN.one (a := some ⟨cb, 0, none⟩) (q := 1) (xs := [_, _, _, _, _]) _ rfl (fun w hw => hw.2.1) rfl ?_ | refine LdN.one (a := some ⟨cb, 0, none⟩) (q := 2) (xs := [_, _, _, _, _]) _ rfl (fun w hw => hw.2.1) rfl ?_ | refine LdN.one (a := some ⟨cb, 0, none⟩) (q := 3) (xs := [_, _, _, _, _]) _ rfl (fun w hw => hw.2.1) rfl ?_ | refine LdN.one (a := some ⟨cb, 0, none⟩) (q := 4) (xs := [_, _, _, _, _]) _ rfl (fun w hw => hw.2.1) rfl ?_ | refine RwN.own ?_ | refine VrN.norm (wrap_i64 (by omega)) ?_ | refine VrN.keep ?_ | refine DrawN.calm (by decide +kernel) ?_ | refine Nd.mk (by decide +kernel) ?_ | refine Nd.mk (by omega) ?_ | (refine Nd.mk ?_ ?_; focus ((repeat' (first | exact trivial | exact wkE_refl _ | refine And.intro ?_ ?_)); done)) | refine RdN.intro _ rfl (by rfl) ?_); (conv => whnf))))
          exact out_bool (by unfold Go.Core.plainS; simp [hu])
        ((conv => whnf); (repeat ((first | refine LdN.one (a := some ⟨cb, 0, none⟩) (q := 0) (xs := [_, _, _, _, _]) _ rfl (fun w hw => hw.2.1) rfl ?_ | refine LdN.one (a := some ⟨cb, 0, none⟩) (q := 1) (xs := [_, _, _, _, _]) _ rfl (fun w hw => hw.2.1) rfl ?_ | refine LdN.one (a := some ⟨cb, 0, none⟩) (q := 2) (xs := [_, _, _, _, _]) _ rfl (fun w hw => hw.2.1) rfl ?_ | refine LdN.one (a := some ⟨cb, 0, none⟩) (q := 3) (xs := [_, _, _, _, _]) _ rfl (fun w hw => hw.2.1) rfl ?_ | refine LdN.one (a := some ⟨cb, 0, none⟩) (q := 4) (xs := [_, _, _, _, _]) _ rfl (fun w hw => hw.2.1) rfl ?_ | refine RwN.own ?_ | refine VrN.norm (wrap_i64 (by omega)) ?_ | refine VrN.keep ?_ | refine DrawN.calm (by decide +kernel) ?_ | refine Nd.mk (by decide +kernel) ?_ | refine Nd.mk (by omega) ?_ | (refine Nd.mk ?_ ?_; focus ((repeat' (first | exact trivial | exact wkE_refl _ | refine And.intro ?_ ?_)); done)) | refine RdN.intro _ rfl (by rfl) ?_); (conv => whnf))))
        refine brd_dec (fun h => absurd h (by omega)) (fun _ => ?_)
        ((conv => whnf); (repeat ((first | refine LdN.one (a := some ⟨cb, 0, none⟩) (q := 0) (xs := [_, _, _, _, _]) _ rfl (fun w hw => hw.2.1) rfl ?_ | refine LdN.one (a := some ⟨cb, 0, none⟩) (q := 1) (xs := [_, _, _, _, _]) _ rfl (fun w hw => hw.2.1) rfl ?_ | refine LdN.one (a := some ⟨cb, 0, none⟩) (q := 2) (xs := [_, _, _, _, _]) _ rfl (fun w hw => hw.2.1) rfl ?_ | refine LdN.one (a := some ⟨cb, 0, none⟩) (q := 3) (xs := [_, _, _, _, _]) _ rfl (fun w hw => hw.2.1) rfl ?_ | refine LdN.one (a := some ⟨cb, 0, none⟩) (q := 4) (xs := [_, _, _, _, _]) _ rfl (fun w hw => hw.2.1) rfl ?_ | refine RwN.own ?_ | refine VrN.norm (wrap_i64 (by omega)) ?_ | refine VrN.keep ?_ | refine DrawN.calm (by decide +kernel) ?_ | refine Nd.mk (by decide +kernel) ?_ | refine Nd.mk (by omega) ?_ | (refine Nd.mk ?_ ?_; focus ((repeat' (first | exact trivial | exact wkE_refl _ | refine And.intro ?_ ?_)); done)) | refine RdN.intro _ rfl (by rfl) ?_); (conv => whnf))))
        refine brd_dec (fun h => absurd h (by omega)) (fun _ => ?_)
        ((conv => whnf); (repeat ((first | refine LdN.one (a := some ⟨cb, 0, none⟩) (q := 0) (xs := [_, _, _, _, _]) _ rfl (fun w hw => hw.2.1) rfl ?_ | refine LdN.one (a := some ⟨cb, 0, none⟩) (q := 1) (xs := [_, _, _, _, _]) _ rfl (fun w hw => hw.2.1) rfl ?_ | refine LdN.one (a := some ⟨cb, 0, none⟩) (q := 2) (xs := [_, _, _, _, _]) _ rfl (fun w hw => hw.2.1) rfl ?_ | refine LdN.one (a := some ⟨cb, 0, none⟩) (q := 3) (xs := [_, _, _, _, _]) _ rfl (fun w hw => hw.2.1) rfl ?_ | refine LdN.one (a := some ⟨cb, 0, none⟩) (q := 4) (xs := [_, _, _, _, _]) _ rfl (fun w hw => hw.2.1) rfl ?_ | refine RwN.own ?_ | refine VrN.norm (wrap_i64 (by omega)) ?_ | refine VrN.keep ?_ | refine DrawN.calm (by decide +kernel) ?_ | refine Nd.mk (by decide +kernel) ?_ | refine Nd.mk (by omega) ?_ | (refine Nd.mk ?_ ?_; focus ((repeat' (first | exact trivial | exact wkE_refl _ | refine And.intro ?_ ?_)); done)) | refine RdN.intro _ rfl (by rfl) ?_); (conv => whnf))))
        -- 4: the kind, hu, show text.length ≤ 2000 from by have := of_decide_eq_true hf; omega: what is known
        refine call1 (isLeaf_c 4 _) ?_
        ((conv => whnf); (repeat ((first | refine LdN.one (a := some ⟨cb, 0, none⟩) (q := 0) (xs := [_, _, _, _, _]) _ rfl (fun w hw => hw.2.1) rfl ?_ | refine LdN.one (a := some ⟨cb, 0, none⟩) (q := 1) (xs := [_, _, _, _, _]) _ rfl (fun w hw => hw.2.1) rfl ?_ | refine LdN.one (a := some ⟨cb, 0, none⟩) (q := 2) (xs := [_, _, _, _, _]) _ rfl (fun w hw => hw.2.1) rfl ?_ | refine LdN.one (a := some ⟨cb, 0, none⟩) (q := 3) (xs := [_, _, _, _, _]) _ rfl (fun w hw => hw.2.1) rfl ?_ | refine LdN.one (a := some ⟨cb, 0, none⟩) (q := 4) (xs := [_, _, _, _, _]) _ rfl (fun w hw => hw.2.1) rfl ?_ | refine RwN.own ?_ | refine VrN.norm (wrap_i64 (by omega)) ?_ | refine VrN.keep ?_ | refine DrawN.calm (by decide +kernel) ?_ | refine Nd.mk (by decide +kernel) ?_ | refine Nd.mk (by omega) ?_ | (refine Nd.mk ?_ ?_; focus ((repeat' (first | exact trivial | exact wkE_refl _ | refine And.intro ?_ ?_)); done)) | refine RdN.intro _ rfl (by rfl) ?_); (conv => whnf))))
        refine brd_eq (fun h1 => ?_) (fun h1 => ?_)
        · have hi0 : items = [] := List.eq_nil_of_length_eq_zero (by omega)
          ((conv => whnf); (repeat ((first | refine LdN.one (a := some ⟨cb, 0, none⟩) (q := 0) (xs := [_, _, _, _, _]) _ rfl (fun w hw => hw.2.1) rfl ?_ | refine LdN.one (a := some ⟨cb, 0, none⟩) (q := 1) (xs := [_, _, _, _, _]) _ rfl (fun w hw => hw.2.1) rfl ?_ | refine LdN.one (a := some ⟨cb, 0, none⟩) (q := 2) (xs := [_, _, _, _, _]) _ rfl (fun w hw => hw.2.1) rfl ?_ | refine LdN.one (a := some ⟨cb, 0, none⟩) (q := 3) (xs := [_, _, _, _, _]) _ rfl (fun w hw => hw.2.1) rfl ?_ | refine LdN.one (a := some ⟨cb, 0, none⟩) (q := 4) (xs := [_, _, _, _, _]) _ rfl (fun w hw => hw.2.1) rfl ?_ | refine RwN.own ?_ | refine VrN.norm (wrap_i64 (by omega)) ?_ | refine VrN.keep ?_ | refine DrawN.calm (by decide +kernel) ?_ | refine Nd.mk (by decide +kernel) ?_ | refine Nd.mk (by omega) ?_ | (refine Nd.mk ?_ ?_; focus ((repeat' (first | exact trivial | exact wkE_refl _ | refine And.intro ?_ ?_)); done)) | refine RdN.intro _ rfl (by rfl) ?_); (conv => whnf))))
          exact out_bool (by
            have hmx : -Go.Core.maxI ≤ 0 ∧ (0 : Int) ≤ Go.Core.maxI := by decide
            rw [Bool.eq_iff_iff]
            unfold Go.Core.plainS
            simp [hi0, hu, show text.length ≤ 2000 from by have := of_decide_eq_true hf; omega, hmx]
            try exact ⟨fun h => List.eq_nil_of_length_eq_zero (by omega), fun h => by rw [h]; rfl⟩)
        · have hi0 : items ≠ [] := fun e => by rw [e] at h1; exact h1 rfl
          ((conv => whnf); (repeat ((first | refine LdN.one (a := some ⟨cb, 0, none⟩) (q := 0) (xs := [_, _, _, _, _]) _ rfl (fun w hw => hw.2.1) rfl ?_ | refine LdN.one (a := some ⟨cb, 0, none⟩) (q := 1) (xs := [_, _, _, _, _]) _ rfl (fun w hw => hw.2.1) rfl ?_ | refine LdN.one (a := some ⟨cb, 0, none⟩) (q := 2) (xs := [_, _, _, _, _]) _ rfl (fun w hw => hw.2.1) rfl ?_ | refine LdN.one (a := some ⟨cb, 0, none⟩) (q := 3) (xs := [_, _, _, _, _]) _ rfl (fun w hw => hw.2.1) rfl ?_ | refine LdN.one (a := some ⟨cb, 0, none⟩) (q := 4) (xs := [_, _, _, _, _]) _ rfl (fun w hw => hw.2.1) rfl ?_ | refine RwN.own ?_ | refine VrN.norm (wrap_i64 (by omega)) ?_ | refine VrN.keep ?_ | refine DrawN.calm (by decide +kernel) ?_ | refine Nd.mk (by decide +kernel) ?_ | refine Nd.mk (by omega) ?_ | (refine Nd.mk ?_ ?_; focus ((repeat' (first | exact trivial | exact wkE_refl _ | refine And.intro ?_ ?_)); done)) | refine RdN.intro _ rfl (by rfl) ?_); (conv => whnf))))
          exact out_bool (by unfold Go.Core.plainS; simp [hi0])
      · -- 5: the kind, decide ((text.length : Int) ≤ 40): what the map holds
        rw [show plWords text true true true 5 = some (.bool (decide ((text.length : Int) ≤ 40))) by simp [plWords]] at hj
        ((conv => whnf); (repeat ((first | refine LdN.one (a := some ⟨cb, 0, none⟩) (q := 0) (xs := [_, _, _, _, _]) _ rfl (fun w hw => hw.2.1) rfl ?_ | refine LdN.one (a := some ⟨cb, 0, none⟩) (q := 1) (xs := [_, _, _, _, _]) _ rfl (fun w hw => hw.2.1) rfl ?_ | refine LdN.one (a := some ⟨cb, 0, none⟩) (q := 2) (xs := [_, _, _, _, _]) _ rfl (fun w hw => hw.2.1) rfl ?_ | refine LdN.one (a := some ⟨cb, 0, none⟩) (q := 3) (xs := [_, _, _, _, _]) _ rfl (fun w hw => hw.2.1) rfl ?_ | refine LdN.one (a := some ⟨cb, 0, none⟩) (q := 4) (xs := [_, _, _, _, _]) _ rfl (fun w hw => hw.2.1) rfl ?_ | refine RwN.own ?_ | refine VrN.norm (wrap_i64 (by omega)) ?_ | refine VrN.keep ?_ | refine DrawN.calm (by decide +kernel) ?_ | refine Nd.mk (by decide +kernel) ?_ | refine Nd.mk (by omega) ?_ | (refine Nd.mk ?_ ?_; focus ((repeat' (first | exact trivial | exact wkE_refl _ | refine And.intro ?_ ?_)); done)) | refine RdN.intro _ rfl (by rfl) ?_); (conv => whnf))))
        refine ReadW.askMap (some (j, .bool (decide ((text.length : Int) ≤ 40)))) rfl Tryz.underlying119 Tryz.underlying3 rfl rfl rfl rfl (fun w hw => hw.2.2.1) hj ?_
        ((conv => whnf); (repeat ((first | refine LdN.one (a := some ⟨cb, 0, none⟩) (q := 0) (xs := [_, _, _, _, _]) _ rfl (fun w hw => hw.2.1) rfl ?_ | refine LdN.one (a := some ⟨cb, 0, none⟩) (q := 1) (xs := [_, _, _, _, _]) _ rfl (fun w hw => hw.2.1) rfl ?_ | refine LdN.one (a := some ⟨cb, 0, none⟩) (q := 2) (xs := [_, _, _, _, _]) _ rfl (fun w hw => hw.2.1) rfl ?_ | refine LdN.one (a := some ⟨cb, 0, none⟩) (q := 3) (xs := [_, _, _, _, _]) _ rfl (fun w hw => hw.2.1) rfl ?_ | refine LdN.one (a := some ⟨cb, 0, none⟩) (q := 4) (xs := [_, _, _, _, _]) _ rfl (fun w hw => hw.2.1) rfl ?_ | refine RwN.own ?_ | refine VrN.norm (wrap_i64 (by omega)) ?_ | refine VrN.keep ?_ | refine DrawN.calm (by decide +kernel) ?_ | refine Nd.mk (by decide +kernel) ?_ | refine Nd.mk (by omega) ?_ | (refine Nd.mk ?_ ?_; focus ((repeat' (first | exact trivial | exact wkE_refl _ | refine And.intro ?_ ?_)); done)) | refine RdN.intro _ rfl (by rfl) ?_); (conv => whnf))))
        cases hf : decide ((text.length : Int) ≤ 40) with
        | false =>
          ((conv => whnf); (repeat ((first | refine LdN.one (a := some ⟨cb, 0, none⟩) (q := 0) (xs := [_, _, _, _, _]) _ rfl (fun w hw => hw.2.1) rfl ?_ | refine LdN.one (a := some ⟨cb, 0, none⟩) (q := 1) (xs := [_, _, _, _, _]) _ rfl (fun w hw => hw.2.1) rfl ?_ | refine LdN.one (a := some ⟨cb, 0, none⟩) (q := 2) (xs := [_, _, _, _, _]) _ rfl (fun w hw => hw.2.1) rfl ?_ | refine LdN.one (a := some ⟨cb, 0, none⟩) (q := 3) (xs := [_, _, _, _, _]) _ rfl (fun w hw => hw.2.1) rfl ?_ | refine LdN.one (a := some ⟨cb, 0, none⟩) (q := 4) (xs := [_, _, _, _, _]) _ rfl (fun w hw => hw.2.1) rfl ?_ | refine RwN.own ?_ | refine VrN.norm (wrap_i64 (by omega)) ?_ | refine VrN.keep ?_ | refine DrawN.calm (by decide +kernel) ?_ | refine Nd.mk (by decide +kernel) ?_ | refine Nd.mk (by omega) ?_ | (refine Nd.mk ?_ ?_; focus ((repeat' (first | exact trivial | exact wkE_refl _ | refine And.intro ?_ ?_)); done)) | refine RdN.intro _ rfl (by rfl) ?_); (conv => whnf))))
          exact out_bool (by unfold Go.Core.plainS; simp [show ¬ text.length ≤ 40 from fun h => of_decide_eq_false hf (by omega)])
        | true =>
        ((conv => whnf); (repeat ((first | refine LdN.one (a := some ⟨cb, 0, none⟩) (q := 0) (xs := [_, _, _, _, _]) _ rfl (fun w hw => hw.2.1) rfl ?_ | refine LdN.one (a := some ⟨cb, 0, none⟩) (q := 1) (xs := [_, _, _, _, _]) _ rfl (fun w hw => hw.2.1) rfl ?_ | refine LdN.one (a := some ⟨cb, 0, none⟩) (q := 2) (xs := [_, _, _, _, _]) _ rfl (fun w hw => hw.2.1) rfl ?_ | refine LdN.one (a := some ⟨cb, 0, none⟩) (q := 3) (xs := [_, _, _, _, _]) _ rfl (fun w hw => hw.2.1) rfl ?_ | refine LdN.one (a := some ⟨cb, 0, none⟩) (q := 4) (xs := [_, _, _, _, _]) _ rfl (fun w hw => hw.2.1) rfl ?_ | refine RwN.own ?_ | refine VrN.norm (wrap_i64 (by omega)) ?_ | refine VrN.keep ?_ | refine DrawN.calm (by decide +kernel) ?_ | refine Nd.mk (by decide +kernel) ?_ | refine Nd.mk (by omega) ?_ | (refine Nd.mk ?_ ?_; focus ((repeat' (first | exact trivial | exact wkE_refl _ | refine And.intro ?_ ?_)); done)) | refine RdN.intro _ rfl (by rfl) ?_); (conv => whnf))))
        refine brd_ne (fun hu => ?_) (fun hu => ?_)
        · ((conv => whnf); (repeat ((first | refine LdN.one (a := some ⟨cb, 0, none⟩) (q := 0) (xs := [_, _, _, _, _]) _ rfl (fun w hw => hw.2.1) rfl ?_ | refine LdN.one (a := some ⟨cb, 0, none⟩) (q := 1) (xs := [_, _, _, _, _]) _ rfl (fun w hw => hw.2.1) rfl ?_ | refine LdN.one (a := some ⟨cb, 0, none⟩) (q := 2) (xs := [_, _, _, _, _]) _ rfl (fun w hw => hw.2.1) rfl ?_ | refine LdN.one (a := some ⟨cb, 0, none⟩) (q := 3) (xs := [_, _, _, _, _]) _ rfl (fun w hw => hw.2.1) rfl ?_ | refine LdN.one (a := some ⟨cb, 0, none⟩) (q := 4) (xs := [_, _, _, _, _]) _ rfl (fun w hw => hw.2.1) rfl ?_ | refine RwN.own ?_ | refine VrN.norm (wrap_i64 (by omega)) ?_ | refine VrN.keep ?_ | refine DrawN.calm (by decide +kernel) ?_ | refine Nd.mk (by decide +kernel) ?_ | refine Nd.mk (by omega) ?_ | (refine Nd.mk ?_ ?_; focus ((repeat' (first | exact trivial | exact wkE_refl _ | refine And.intro ?_ ?_)); done)) | refine RdN.intro _ rfl (by rfl) ?_); (conv => whnf))))
          exact out_bool (by unfold Go.Core.plainS; simp [hu])
        ((conv => whnf); (repeat ((first | refine LdN.one (a := some ⟨cb, 0, none⟩) (q := 0) (xs := [_, _, _, _, _]) _ rfl (fun w hw => hw.2.1) rfl ?_ | refine LdN.one (a := some ⟨cb, 0, none⟩) (q := 1) (xs := [_, _, _, _, _]) _ rfl (fun w hw => hw.2.1) rfl ?_ | refine LdN.one (a := some ⟨cb, 0, none⟩) (q := 2) (xs := [_, _, _, _, _]) _ rfl (fun w hw => hw.2.1) rfl ?_ | refine LdN.one (a := some ⟨cb, 0, none⟩) (q := 3) (xs := [_, _, _, _, _]) _ rfl (fun w hw => hw.2.1) rfl ?_ | refine LdN.one (a := some ⟨cb, 0, none⟩) (q := 4) (xs := [_, _, _, _, _]) _ rfl (fun w hw => hw.2.1) rfl ?_ | refine RwN.own ?_ | refine VrN.norm (wrap_i64 (by omega)) ?_ | refine VrN.keep ?_ | refine DrawN.calm (by decide +kernel) ?_ | refine Nd.mk (by decide +kernel) ?_ | refine Nd.mk (by omega) ?_ | (refine Nd.mk ?_ ?_; focus ((repeat' (first | exact trivial | exact wkE_refl _ | refine And.intro ?_ ?_)); done)) | refine RdN.intro _ rfl (by rfl) ?_); (conv => whnf))))
        refine brd_dec (fun h => absurd h (by omega)) (fun _ => ?_)
        ((conv => whnf); (repeat ((first | refine LdN.one (a := some ⟨cb, 0, none⟩) (q := 0) (xs := [_, _, _, _, _]) _ rfl (fun w hw => hw.2.1) rfl ?_ | refine LdN.one (a := some ⟨cb, 0, none⟩) (q := 1) (xs := [_, _, _, _, _]) _ rfl (fun w hw => hw.2.1) rfl ?_ | refine LdN.one (a := some ⟨cb, 0, none⟩) (q := 2) (xs := [_, _, _, _, _]) _ rfl (fun w hw => hw.2.1) rfl ?_ | refine LdN.one (a := some ⟨cb, 0, none⟩) (q := 3) (xs := [_, _, _, _, _]) _ rfl (fun w hw => hw.2.1) rfl ?_ | refine LdN.one (a := some ⟨cb, 0, none⟩) (q := 4) (xs := [_, _, _, _, _]) _ rfl (fun w hw => hw.2.1) rfl ?_ | refine RwN.own ?_ | refine VrN.norm (wrap_i64 (by omega)) ?_ | refine VrN.keep ?_ | refine DrawN.calm (by decide +kernel) ?_ | refine Nd.mk (by decide +kernel) ?_ | refine Nd.mk (by omega) ?_ | (refine Nd.mk ?_ ?_; focus ((repeat' (first | exact trivial | exact wkE_refl _ | refine And.intro ?_ ?_)); done)) | refine RdN.intro _ rfl (by rfl) ?_); (conv => whnf))))
        refine brd_dec (fun h => absurd h (by omega)) (fun _ => ?_)
        ((conv => whnf); (repeat ((first | refine LdN.one (a := some ⟨cb, 0, none⟩) (q := 0) (xs := [_, _, _, _, _]) _ rfl (fun w hw => hw.2.1) rfl ?_ | refine LdN.one (a := some ⟨cb, 0, none⟩) (q := 1) (xs := [_, _, _, _, _]) _ rfl (fun w hw => hw.2.1) rfl ?_ | refine LdN.one (a := some ⟨cb, 0, none⟩) (q := 2) (xs := [_, _, _, _, _]) _ rfl (fun w hw => hw.2.1) rfl ?_ | refine LdN.one (a := some ⟨cb, 0, none⟩) (q := 3) (xs := [_, _, _, _, _]) _ rfl (fun w hw => hw.2.1) rfl ?_ | refine LdN.one (a := some ⟨cb, 0, none⟩) (q := 4) (xs := [_, _, _, _, _]) _ rfl (fun w hw => hw.2.1) rfl ?_ | refine RwN.own ?_ | refine VrN.norm (wrap_i64 (by omega)) ?_ | refine VrN.keep ?_ | refine DrawN.calm (by decide +kernel) ?_ | refine Nd.mk (by decide +kernel) ?_ | refine Nd.mk (by omega) ?_ | (refine Nd.mk ?_ ?_; focus ((repeat' (first | exact trivial | exact wkE_refl _ | refine And.intro ?_ ?_)); done)) | refine RdN.intro _ rfl (by rfl) ?_); (conv => whnf))))
        -- 5: the kind, hu, show text.length ≤ 40 from by have := of_decide_eq_true hf; omega: what is known
        refine call1 (isLeaf_c 5 _) ?_
        ((conv => whnf); (repeat ((first | refine LdN.one (a := some ⟨cb, 0, none⟩) (q := 0) (xs := [_, _, _, _, _]) _ rfl (fun w hw => hw.2.1) rfl ?_ | refine LdN.one (a := some ⟨cb, 0, none⟩) (q := 1) (xs := [_, _, _, _, _]) _ rfl (fun w hw => hw.2.1) rfl ?_ | refine LdN.one (a := some ⟨cb, 0, none⟩) (q := 2) (xs := [_, _, _, _, _]) _ rfl (fun w hw => hw.2.1) rfl ?_ | refine LdN.one (a := some ⟨cb, 0, none⟩) (q := 3) (xs := [_, _, _, _, _]) _ rfl (fun w hw => hw.2.1) rfl ?_ | refine LdN.one (a := some ⟨cb, 0, none⟩) (q := 4) (xs := [_, _, _, _, _]) _ rfl (fun w hw => hw.2.1) rfl ?_ | refine RwN.own ?_ | refine VrN.norm (wrap_i64 (by omega)) ?_ | refine VrN.keep ?_ | refine DrawN.calm (by decide +kernel) ?_ | refine Nd.mk (by decide +kernel) ?_ | refine Nd.mk (by omega) ?_ | (refine Nd.mk ?_ ?_; focus ((repeat' (first | exact trivial | exact wkE_refl _ | refine And.intro ?_ ?_)); done)) | refine RdN.intro _ rfl (by rfl) ?_); (conv => whnf))))
        refine brd_eq (fun h1 => ?_) (fun h1 => ?_)
        · have hi0 : items = [] := List.eq_nil_of_length_eq_zero (by omega)
          ((conv => whnf); (repeat ((first | refine LdN.one (a := some ⟨cb, 0, none⟩) (q := 0) (xs := [_, _, _, _, _]) _ rfl (fun w hw => hw.2.1) rfl ?_ | refine LdN.one (a := some ⟨cb, 0, none⟩) (q := 1) (xs := [_, _, _, _, _]) _ rfl (fun w hw => hw.2.1) rfl ?_ | refine LdN.one (a := some ⟨cb, 0, none⟩) (q := 2) (xs := [_, _, _, _, _]) _ rfl (fun w hw => hw.2.1) rfl ?_ | refine LdN.one (a := some ⟨cb, 0, none⟩) (q := 3) (xs := [_, _, _, _, _]) _ rfl (fun w hw => hw.2.1) rfl ?_ | refine LdN.one (a := some ⟨cb, 0, none⟩) (q := 4) (xs := [_, _, _, _, _]) _ rfl (fun w hw => hw.2.1) rfl ?_ | refine RwN.own ?_ | refine VrN.norm (wrap_i64 (by omega)) ?_ | refine VrN.keep ?_ | refine DrawN.calm (by decide +kernel) ?_ | refine Nd.mk (by decide +kernel) ?_ | refine Nd.mk (by omega) ?_ | (refine Nd.mk ?_ ?_; focus ((repeat' (first | exact trivial | exact wkE_refl _ | refine And.intro ?_ ?_)); done)) | refine RdN.intro _ rfl (by rfl) ?_); (conv => whnf))))
          exact out_bool (by
            have hmx : -Go.Core.maxI ≤ 0 ∧ (0 : Int) ≤ Go.Core.maxI := by decide
            rw [Bool.eq_iff_iff]
            unfold Go.Core.plainS
            simp [hi0, hu, show text.length ≤ 40 from by have := of_decide_eq_true hf; omega, hmx]
            try exact ⟨fun h => List.eq_nil_of_length_eq_zero (by omega), fun h => by rw [h]; rfl⟩)
        · have hi0 : items ≠ [] := fun e => by rw [e] at h1; exact h1 rfl
          ((conv => whnf); (repeat ((first | refine LdN.one (a := some ⟨cb, 0, none⟩) (q := 0) (xs := [_, _, _, _, _]) _ rfl (fun w hw => hw.2.1) rfl ?_ | refine LdN.one (a := some ⟨cb, 0, none⟩) (q := 1) (xs := [_, _, _, _, _]) _ rfl (fun w hw => hw.2.1) rfl ?_ | refine LdN.one (a := some ⟨cb, 0, none⟩) (q := 2) (xs := [_, _, _, _, _]) _ rfl (fun w hw => hw.2.1) rfl ?_ | refine LdN.one (a := some ⟨cb, 0, none⟩) (q := 3) (xs := [_, _, _, _, _]) _ rfl (fun w hw => hw.2.1) rfl ?_ | refine LdN.one (a := some ⟨cb, 0, none⟩) (q := 4) (xs := [_, _, _, _, _]) _ rfl (fun w hw => hw.2.1) rfl ?_ | refine RwN.own ?_ | refine VrN.norm (wrap_i64 (by omega)) ?_ | refine VrN.keep ?_ | refine DrawN.calm (by decide +kernel) ?_ | refine Nd.mk (by decide +kernel) ?_ | refine Nd.mk (by omega) ?_ | (refine Nd.mk ?_ ?_; focus ((repeat' (first | exact trivial | exact wkE_refl _ | refine And.intro ?_ ?_)); done)) | refine RdN.intro _ rfl (by rfl) ?_); (conv => whnf))))
          exact out_bool (by unfold Go.Core.plainS; simp [hi0])
      · -- what the map holds: nothing
        rw [show plWords text true true true 6 = none by unfold plWords; rw [if_neg (by omega), if_neg (by omega), if_neg (by omega)]] at hj
        ((conv => whnf); (repeat ((first | refine LdN.one (a := some ⟨cb, 0, none⟩) (q := 0) (xs := [_, _, _, _, _]) _ rfl (fun w hw => hw.2.1) rfl ?_ | refine LdN.one (a := some ⟨cb, 0, none⟩) (q := 1) (xs := [_, _, _, _, _]) _ rfl (fun w hw => hw.2.1) rfl ?_ | refine LdN.one (a := some ⟨cb, 0, none⟩) (q := 2) (xs := [_, _, _, _, _]) _ rfl (fun w hw => hw.2.1) rfl ?_ | refine LdN.one (a := some ⟨cb, 0, none⟩) (q := 3) (xs := [_, _, _, _, _]) _ rfl (fun w hw => hw.2.1) rfl ?_ | refine LdN.one (a := some ⟨cb, 0, none⟩) (q := 4) (xs := [_, _, _, _, _]) _ rfl (fun w hw => hw.2.1) rfl ?_ | refine RwN.own ?_ | refine VrN.norm (wrap_i64 (by omega)) ?_ | refine VrN.keep ?_ | refine DrawN.calm (by decide +kernel) ?_ | refine Nd.mk (by decide +kernel) ?_ | refine Nd.mk (by omega) ?_ | (refine Nd.mk ?_ ?_; focus ((repeat' (first | exact trivial | exact wkE_refl _ | refine And.intro ?_ ?_)); done)) | refine RdN.intro _ rfl (by rfl) ?_); (conv => whnf))))
        refine ReadW.askMap none rfl Tryz.underlying119 Tryz.underlying3 rfl rfl rfl rfl (fun w hw => hw.2.2.1) hj ?_
        ((conv => whnf); (repeat ((first | refine LdN.one (a := some ⟨cb, 0, none⟩) (q := 0) (xs := [_, _, _, _, _]) _ rfl (fun w hw => hw.2.1) rfl ?_ | refine LdN.one (a := some ⟨cb, 0, none⟩) (q := 1) (xs := [_, _, _, _, _]) _ rfl (fun w hw => hw.2.1) rfl ?_ | refine LdN.one (a := some ⟨cb, 0, none⟩) (q := 2) (xs := [_, _, _, _, _]) _ rfl (fun w hw => hw.2.1) rfl ?_ | refine LdN.one (a := some ⟨cb, 0, none⟩) (q := 3) (xs := [_, _, _, _, _]) _ rfl (fun w hw => hw.2.1) rfl ?_ | refine LdN.one (a := some ⟨cb, 0, none⟩) (q := 4) (xs := [_, _, _, _, _]) _ rfl (fun w hw => hw.2.1) rfl ?_ | refine RwN.own ?_ | refine VrN.norm (wrap_i64 (by omega)) ?_ | refine VrN.keep ?_ | refine DrawN.calm (by decide +kernel) ?_ | refine Nd.mk (by decide +kernel) ?_ | refine Nd.mk (by omega) ?_ | (refine Nd.mk ?_ ?_; focus ((repeat' (first | exact trivial | exact wkE_refl _ | refine And.intro ?_ ?_)); done)) | refine RdN.intro _ rfl (by rfl) ?_); (conv => whnf))))
        rw [bs_list]
        cases ht : text == ([] : List UInt8) with
        | false =>
          have ht0 : text ≠ [] := fun e => by rw [e] at ht; cases ht
          ((conv => whnf); (repeat ((first | refine LdN.one (a := some ⟨cb, 0, none⟩) (q := 0) (xs := [_, _, _, _, _]) _ rfl (fun w hw => hw.2.1) rfl ?_ | refine LdN.one (a := some ⟨cb, 0, none⟩) (q := 1) (xs := [_, _, _, _, _]) _ rfl (fun w hw => hw.2.1) rfl ?_ | refine LdN.one (a := some ⟨cb, 0, none⟩) (q := 2) (xs := [_, _, _, _, _]) _ rfl (fun w hw => hw.2.1) rfl ?_ | refine LdN.one (a := some ⟨cb, 0, none⟩) (q := 3) (xs := [_, _, _, _, _]) _ rfl (fun w hw => hw.2.1) rfl ?_ | refine LdN.one (a := some ⟨cb, 0, none⟩) (q := 4) (xs := [_, _, _, _, _]) _ rfl (fun w hw => hw.2.1) rfl ?_ | refine RwN.own ?_ | refine VrN.norm (wrap_i64 (by omega)) ?_ | refine VrN.keep ?_ | refine DrawN.calm (by decide +kernel) ?_ | refine Nd.mk (by decide +kernel) ?_ | refine Nd.mk (by omega) ?_ | (refine Nd.mk ?_ ?_; focus ((repeat' (first | exact trivial | exact wkE_refl _ | refine And.intro ?_ ?_)); done)) | refine RdN.intro _ rfl (by rfl) ?_); (conv => whnf))))
          exact out_bool (by unfold Go.Core.plainS; simp [ht0])
        | true =>
        have ht0 : text = [] := eq_of_beq ht
        ((conv => whnf); (repeat ((first | refine LdN.one (a := some ⟨cb, 0, none⟩) (q := 0) (xs := [_, _, _, _, _]) _ rfl (fun w hw => hw.2.1) rfl ?_ | refine LdN.one (a := some ⟨cb, 0, none⟩) (q := 1) (xs := [_, _, _, _, _]) _ rfl (fun w hw => hw.2.1) rfl ?_ | refine LdN.one (a := some ⟨cb, 0, none⟩) (q := 2) (xs := [_, _, _, _, _]) _ rfl (fun w hw => hw.2.1) rfl ?_ | refine LdN.one (a := some ⟨cb, 0, none⟩) (q := 3) (xs := [_, _, _, _, _]) _ rfl (fun w hw => hw.2.1) rfl ?_ | refine LdN.one (a := some ⟨cb, 0, none⟩) (q := 4) (xs := [_, _, _, _, _]) _ rfl (fun w hw => hw.2.1) rfl ?_ | refine RwN.own ?_ | refine VrN.norm (wrap_i64 (by omega)) ?_ | refine VrN.keep ?_ | refine DrawN.calm (by decide +kernel) ?_ | refine Nd.mk (by decide +kernel) ?_ | refine Nd.mk (by omega) ?_ | (refine Nd.mk ?_ ?_; focus ((repeat' (first | exact trivial | exact wkE_refl _ | refine And.intro ?_ ?_)); done)) | refine RdN.intro _ rfl (by rfl) ?_); (conv => whnf))))
        refine brd_ne (fun hu => ?_) (fun hu => ?_)
        · ((conv => whnf); (repeat ((first | refine LdN.one (a := some ⟨cb, 0, none⟩) (q := 0) (xs := [_, _, _, _, _]) _ rfl (fun w hw => hw.2.1) rfl ?_ | refine LdN.one (a := some ⟨cb, 0, none⟩) (q := 1) (xs := [_, _, _, _, _]) _ rfl (fun w hw => hw.2.1) rfl ?_ | refine LdN.one (a := some ⟨cb, 0, none⟩) (q := 2) (xs := [_, _, _, _, _]) _ rfl (fun w hw => hw.2.1) rfl ?_ | refine LdN.one (a := some ⟨cb, 0, none⟩) (q := 3) (xs := [_, _, _, _, _]) _ rfl (fun w hw => hw.2.1) rfl ?_ | refine LdN.one (a := some ⟨cb, 0, none⟩) (q := 4) (xs := [_, _, _, _, _]) _ rfl (fun w hw => hw.2.1) rfl ?_ | refine RwN.own ?_ | refine VrN.norm (wrap_i64 (by omega)) ?_ | refine VrN.keep ?_ | refine DrawN.calm (by decide +kernel) ?_ | refine Nd.mk (by decide +kernel) ?_ | refine Nd.mk (by omega) ?_ | (refine Nd.mk ?_ ?_; focus ((repeat' (first | exact trivial | exact wkE_refl _ | refine And.intro ?_ ?_)); done)) | refine RdN.intro _ rfl (by rfl) ?_); (conv => whnf))))
          exact out_bool (by unfold Go.Core.plainS; simp [hu])
        ((conv => whnf); (repeat ((first | refine LdN.one (a := some ⟨cb, 0, none⟩) (q := 0) (xs := [_, _, _, _, _]) _ rfl (fun w hw => hw.2.1) rfl ?_ | refine LdN.one (a := some ⟨cb, 0, none⟩) (q := 1) (xs := [_, _, _, _, _]) _ rfl (fun w hw => hw.2.1) rfl ?_ | refine LdN.one (a := some ⟨cb, 0, none⟩) (q := 2) (xs := [_, _, _, _, _]) _ rfl (fun w hw => hw.2.1) rfl ?_ | refine LdN.one (a := some ⟨cb, 0, none⟩) (q := 3) (xs := [_, _, _, _, _]) _ rfl (fun w hw => hw.2.1) rfl ?_ | refine LdN.one (a := some ⟨cb, 0, none⟩) (q := 4) (xs := [_, _, _, _, _]) _ rfl (fun w hw => hw.2.1) rfl ?_ | refine RwN.own ?_ | refine VrN.norm (wrap_i64 (by omega)) ?_ | refine VrN.keep ?_ | refine DrawN.calm (by decide +kernel) ?_ | refine Nd.mk (by decide +kernel) ?_ | refine Nd.mk (by omega) ?_ | (refine Nd.mk ?_ ?_; focus ((repeat' (first | exact trivial | exact wkE_refl _ | refine And.intro ?_ ?_)); done)) | refine RdN.intro _ rfl (by rfl) ?_); (conv => whnf))))
        refine brd_dec (fun h => absurd h (by omega)) (fun _ => ?_)
        ((conv => whnf); (repeat ((first | refine LdN.one (a := some ⟨cb, 0, none⟩) (q := 0) (xs := [_, _, _, _, _]) _ rfl (fun w hw => hw.2.1) rfl ?_ | refine LdN.one (a := some ⟨cb, 0, none⟩) (q := 1) (xs := [_, _, _, _, _]) _ rfl (fun w hw => hw.2.1) rfl ?_ | refine LdN.one (a := some ⟨cb, 0, none⟩) (q := 2) (xs := [_, _, _, _, _]) _ rfl (fun w hw => hw.2.1) rfl ?_ | refine LdN.one (a := some ⟨cb, 0, none⟩) (q := 3) (xs := [_, _, _, _, _]) _ rfl (fun w hw => hw.2.1) rfl ?_ | refine LdN.one (a := some ⟨cb, 0, none⟩) (q := 4) (xs := [_, _, _, _, _]) _ rfl (fun w hw => hw.2.1) rfl ?_ | refine RwN.own ?_ | refine VrN.norm (wrap_i64 (by omega)) ?_ | refine VrN.keep ?_ | refine DrawN.calm (by decide +kernel) ?_ | refine Nd.mk (by decide +kernel) ?_ | refine Nd.mk (by omega) ?_ | (refine Nd.mk ?_ ?_; focus ((repeat' (first | exact trivial | exact wkE_refl _ | refine And.intro ?_ ?_)); done)) | refine RdN.intro _ rfl (by rfl) ?_); (conv => whnf))))
        refine brd_dec (fun h => absurd h (by omega)) (fun _ => ?_)
        ((conv => whnf); (repeat ((first | refine LdN.one (a := some ⟨cb, 0, none⟩) (q := 0) (xs := [_, _, _, _, _]) _ rfl (fun w hw => hw.2.1) rfl ?_ | refine LdN.one (a := some ⟨cb, 0, none⟩) (q := 1) (xs := [_, _, _, _, _]) _ rfl (fun w hw => hw.2.1) rfl ?_ | refine LdN.one (a := some ⟨cb, 0, none⟩) (q := 2) (xs := [_, _, _, _, _]) _ rfl (fun w hw => hw.2.1) rfl ?_ | refine LdN.one (a := some ⟨cb, 0, none⟩) (q := 3) (xs := [_, _, _, _, _]) _ rfl (fun w hw => hw.2.1) rfl ?_ | refine LdN.one (a := some ⟨cb, 0, none⟩) (q := 4) (xs := [_, _, _, _, _]) _ rfl (fun w hw => hw.2.1) rfl ?_ | refine RwN.own ?_ | refine VrN.norm (wrap_i64 (by omega)) ?_ | refine VrN.keep ?_ | refine DrawN.calm (by decide +kernel) ?_ | refine Nd.mk (by decide +kernel) ?_ | refine Nd.mk (by omega) ?_ | (refine Nd.mk ?_ ?_; focus ((repeat' (first | exact trivial | exact wkE_refl _ | refine And.intro ?_ ?_)); done)) | refine RdN.intro _ rfl (by rfl) ?_); (conv => whnf))))
        -- 6: the kind
        refine call1 (isLeaf_c 6 _) ?_
        ((conv => whnf); (repeat ((first | refine LdN.one (a := some ⟨cb, 0, none⟩) (q := 0) (xs := [_, _, _, _, _]) _ rfl (fun w hw => hw.2.1) rfl ?_ | refine LdN.one (a := some ⟨cb, 0, none⟩) (q := 1) (xs := [_, _, _, _, _]) _ rfl (fun w hw => hw.2.1) rfl ?_ | refine LdN.one (a := some ⟨cb, 0, none⟩) (q := 2) (xs := [_, _, _, _, _]) _ rfl (fun w hw => hw.2.1) rfl ?_ | refine LdN.one (a := some ⟨cb, 0, none⟩) (q := 3) (xs := [_, _, _, _, _]) _ rfl (fun w hw => hw.2.1) rfl ?_ | refine LdN.one (a := some ⟨cb, 0, none⟩) (q := 4) (xs := [_, _, _, _, _]) _ rfl (fun w hw => hw.2.1) rfl ?_ | refine RwN.own ?_ | refine VrN.norm (wrap_i64 (by omega)) ?_ | refine VrN.keep ?_ | refine DrawN.calm (by decide +kernel) ?_ | refine Nd.mk (by decide +kernel) ?_ | refine Nd.mk (by omega) ?_ | (refine Nd.mk ?_ ?_; focus ((repeat' (first | exact trivial | exact wkE_refl _ | refine And.intro ?_ ?_)); done)) | refine RdN.intro _ rfl (by rfl) ?_); (conv => whnf))))
        refine brd_eq (fun h1 => ?_) (fun h1 => ?_)
        · have hn0 : names = [] := List.eq_nil_of_length_eq_zero (by omega)
          ((conv => whnf); (repeat ((first | refine LdN.one (a := some ⟨cb, 0, none⟩) (q := 0) (xs := [_, _, _, _, _]) _ rfl (fun w hw => hw.2.1) rfl ?_ | refine LdN.one (a := some ⟨cb, 0, none⟩) (q := 1) (xs := [_, _, _, _, _]) _ rfl (fun w hw => hw.2.1) rfl ?_ | refine LdN.one (a := some ⟨cb, 0, none⟩) (q := 2) (xs := [_, _, _, _, _]) _ rfl (fun w hw => hw.2.1) rfl ?_ | refine LdN.one (a := some ⟨cb, 0, none⟩) (q := 3) (xs := [_, _, _, _, _]) _ rfl (fun w hw => hw.2.1) rfl ?_ | refine LdN.one (a := some ⟨cb, 0, none⟩) (q := 4) (xs := [_, _, _, _, _]) _ rfl (fun w hw => hw.2.1) rfl ?_ | refine RwN.own ?_ | refine VrN.norm (wrap_i64 (by omega)) ?_ | refine VrN.keep ?_ | refine DrawN.calm (by decide +kernel) ?_ | refine Nd.mk (by decide +kernel) ?_ | refine Nd.mk (by omega) ?_ | (refine Nd.mk ?_ ?_; focus ((repeat' (first | exact trivial | exact wkE_refl _ | refine And.intro ?_ ?_)); done)) | refine RdN.intro _ rfl (by rfl) ?_); (conv => whnf))))
          exact out_bool (by
            have hmx : -Go.Core.maxI ≤ 0 ∧ (0 : Int) ≤ Go.Core.maxI := by decide
            rw [Bool.eq_iff_iff]
            unfold Go.Core.plainS
            simp [hn0, ht0, hu, hmx]
            try (rw [Int.tmod_eq_emod_of_nonneg (by omega)]; omega))
        · have hn0 : names ≠ [] := fun e => by rw [e] at h1; exact h1 rfl
          ((conv => whnf); (repeat ((first | refine LdN.one (a := some ⟨cb, 0, none⟩) (q := 0) (xs := [_, _, _, _, _]) _ rfl (fun w hw => hw.2.1) rfl ?_ | refine LdN.one (a := some ⟨cb, 0, none⟩) (q := 1) (xs := [_, _, _, _, _]) _ rfl (fun w hw => hw.2.1) rfl ?_ | refine LdN.one (a := some ⟨cb, 0, none⟩) (q := 2) (xs := [_, _, _, _, _]) _ rfl (fun w hw => hw.2.1) rfl ?_ | refine LdN.one (a := some ⟨cb, 0, none⟩) (q := 3) (xs := [_, _, _, _, _]) _ rfl (fun w hw => hw.2.1) rfl ?_ | refine LdN.one (a := some ⟨cb, 0, none⟩) (q := 4) (xs := [_, _, _, _, _]) _ rfl (fun w hw => hw.2.1) rfl ?_ | refine RwN.own ?_ | refine VrN.norm (wrap_i64 (by omega)) ?_ | refine VrN.keep ?_ | refine DrawN.calm (by decide +kernel) ?_ | refine Nd.mk (by decide +kernel) ?_ | refine Nd.mk (by omega) ?_ | (refine Nd.mk ?_ ?_; focus ((repeat' (first | exact trivial | exact wkE_refl _ | refine And.intro ?_ ?_)); done)) | refine RdN.intro _ rfl (by rfl) ?_); (conv => whnf))))
          exact out_bool (by unfold Go.Core.plainS; simp [hn0])
      · -- what the map holds: nothing
        rw [show plWords text true true true 7 = none by unfold plWords; rw [if_neg (by omega), if_neg (by omega), if_neg (by omega)]] at hj
        ((conv => whnf); (repeat ((first | refine LdN.one (a := some ⟨cb, 0, none⟩) (q := 0) (xs := [_, _, _, _, _]) _ rfl (fun w hw => hw.2.1) rfl ?_ | refine LdN.one (a := some ⟨cb, 0, none⟩) (q := 1) (xs := [_, _, _, _, _]) _ rfl (fun w hw => hw.2.1) rfl ?_ | refine LdN.one (a := some ⟨cb, 0, none⟩) (q := 2) (xs := [_, _, _, _, _]) _ rfl (fun w hw => hw.2.1) rfl ?_ | refine LdN.one (a := some ⟨cb, 0, none⟩) (q := 3) (xs := [_, _, _, _, _]) _ rfl (fun w hw => hw.2.1) rfl ?_ | refine LdN.one (a := some ⟨cb, 0, none⟩) (q := 4) (xs := [_, _, _, _, _]) _ rfl (fun w hw => hw.2.1) rfl ?_ | refine RwN.own ?_ | refine VrN.norm (wrap_i64 (by omega)) ?_ | refine VrN.keep ?_ | refine DrawN.calm (by decide +kernel) ?_ | refine Nd.mk (by decide +kernel) ?_ | refine Nd.mk (by omega) ?_ | (refine Nd.mk ?_ ?_; focus ((repeat' (first | exact trivial | exact wkE_refl _ | refine And.intro ?_ ?_)); done)) | refine RdN.intro _ rfl (by rfl) ?_); (conv => whnf))))
        refine ReadW.askMap none rfl Tryz.underlying119 Tryz.underlying3 rfl rfl rfl rfl (fun w hw => hw.2.2.1) hj ?_
        ((conv => whnf); (repeat ((first | refine LdN.one (a := some ⟨cb, 0, none⟩) (q := 0) (xs := [_, _, _, _, _]) _ rfl (fun w hw => hw.2.1) rfl ?_ | refine LdN.one (a := some ⟨cb, 0, none⟩) (q := 1) (xs := [_, _, _, _, _]) _ rfl (fun w hw => hw.2.1) rfl ?_ | refine LdN.one (a := some ⟨cb, 0, none⟩) (q := 2) (xs := [_, _, _, _, _]) _ rfl (fun w hw => hw.2.1) rfl ?_ | refine LdN.one (a := some ⟨cb, 0, none⟩) (q := 3) (xs := [_, _, _, _, _]) _ rfl (fun w hw => hw.2.1) rfl ?_ | refine LdN.one (a := some ⟨cb, 0, none⟩) (q := 4) (xs := [_, _, _, _, _]) _ rfl (fun w hw => hw.2.1) rfl ?_ | refine RwN.own ?_ | refine VrN.norm (wrap_i64 (by omega)) ?_ | refine VrN.keep ?_ | refine DrawN.calm (by decide +kernel) ?_ | refine Nd.mk (by decide +kernel) ?_ | refine Nd.mk (by omega) ?_ | (refine Nd.mk ?_ ?_; focus ((repeat' (first | exact trivial | exact wkE_refl _ | refine And.intro ?_ ?_)); done)) | refine RdN.intro _ rfl (by rfl) ?_); (conv => whnf))))
        rw [bs_list]
        cases ht : text == ([] : List UInt8) with
        | false =>
          have ht0 : text ≠ [] := fun e => by rw [e] at ht; cases ht
          ((conv => whnf); (repeat ((first | refine LdN.one (a := some ⟨cb, 0, none⟩) (q := 0) (xs := [_, _, _, _, _]) _ rfl (fun w hw => hw.2.1) rfl ?_ | refine LdN.one (a := some ⟨cb, 0, none⟩) (q := 1) (xs := [_, _, _, _, _]) _ rfl (fun w hw => hw.2.1) rfl ?_ | refine LdN.one (a := some ⟨cb, 0, none⟩) (q := 2) (xs := [_, _, _, _, _]) _ rfl (fun w hw => hw.2.1) rfl ?_ | refine LdN.one (a := some ⟨cb, 0, none⟩) (q := 3) (xs := [_, _, _, _, _]) _ rfl (fun w hw => hw.2.1) rfl ?_ | refine LdN.one (a := some ⟨cb, 0, none⟩) (q := 4) (xs := [_, _, _, _, _]) _ rfl (fun w hw => hw.2.1) rfl ?_ | refine RwN.own ?_ | refine VrN.norm (wrap_i64 (by omega)) ?_ | refine VrN.keep ?_ | refine DrawN.calm (by decide +kernel) ?_ | refine Nd.mk (by decide +kernel) ?_ | refine Nd.mk (by omega) ?_ | (refine Nd.mk ?_ ?_; focus ((repeat' (first | exact trivial | exact wkE_refl _ | refine And.intro ?_ ?_)); done)) | refine RdN.intro _ rfl (by rfl) ?_); (conv => whnf))))
          exact out_bool (by unfold Go.Core.plainS; simp [ht0])
        | true =>
        have ht0 : text = [] := eq_of_beq ht
        ((conv => whnf); (repeat ((first | refine LdN.one (a := some ⟨cb, 0, none⟩) (q := 0) (xs := [_, _, _, _, _]) _ rfl (fun w hw => hw.2.1) rfl ?_ | refine LdN.one (a := some ⟨cb, 0, none⟩) (q := 1) (xs := [_, _, _, _, _]) _ rfl (fun w hw => hw.2.1) rfl ?_ | refine LdN.one (a := some ⟨cb, 0, none⟩) (q := 2) (xs := [_, _, _, _, _]) _ rfl (fun w hw => hw.2.1) rfl ?_ | refine LdN.one (a := some ⟨cb, 0, none⟩) (q := 3) (xs := [_, _, _, _, _]) _ rfl (fun w hw => hw.2.1) rfl ?_ | refine LdN.one (a := some ⟨cb, 0, none⟩) (q := 4) (xs := [_, _, _, _, _]) _ rfl (fun w hw => hw.2.1) rfl ?_ | refine RwN.own ?_ | refine VrN.norm (wrap_i64 (by omega)) ?_ | refine VrN.keep ?_ | refine DrawN.calm (by decide +kernel) ?_ | refine Nd.mk (by decide +kernel) ?_ | refine Nd.mk (by omega) ?_ | (refine Nd.mk ?_ ?_; focus ((repeat' (first | exact trivial | exact wkE_refl _ | refine And.intro ?_ ?_)); done)) | refine RdN.intro _ rfl (by rfl) ?_); (conv => whnf))))
        refine brd_ne (fun hu => ?_) (fun hu => ?_)
        · ((conv => whnf); (repeat ((first | refine LdN.one (a := some ⟨cb, 0, none⟩) (q := 0) (xs := [_, _, _, _, _]) _ rfl (fun w hw => hw.2.1) rfl ?_ | refine LdN.one (a := some ⟨cb, 0, none⟩) (q := 1) (xs := [_, _, _, _, _]) _ rfl (fun w hw => hw.2.1) rfl ?_ | refine LdN.one (a := some ⟨cb, 0, none⟩) (q := 2) (xs := [_, _, _, _, _]) _ rfl (fun w hw => hw.2.1) rfl ?_ | refine LdN.one (a := some ⟨cb, 0, none⟩) (q := 3) (xs := [_, _, _, _, _]) _ rfl (fun w hw => hw.2.1) rfl ?_ | refine LdN.one (a := some ⟨cb, 0, none⟩) (q := 4) (xs := [_, _, _, _, _]) _ rfl (fun w hw => hw.2.1) rfl ?_ | refine RwN.own ?_ | refine VrN.norm (wrap_i64 (by omega)) ?_ | refine VrN.keep ?_ | refine DrawN.calm (by decide +kernel) ?_ | refine Nd.mk (by decide +kernel) ?_ | refine Nd.mk (by omega) ?_ | (refine Nd.mk ?_ ?_; focus ((repeat' (first | exact trivial | exact wkE_refl _ | refine And.intro ?_ ?_)); done)) | refine RdN.intro _ rfl (by rfl) ?_); (conv => whnf))))
          exact out_bool (by unfold Go.Core.plainS; simp [hu])
        ((conv => whnf); (repeat ((first | refine LdN.one (a := some ⟨cb, 0, none⟩) (q := 0) (xs := [_, _, _, _, _]) _ rfl (fun w hw => hw.2.1) rfl ?_ | refine LdN.one (a := some ⟨cb, 0, none⟩) (q := 1) (xs := [_, _, _, _, _]) _ rfl (fun w hw => hw.2.1) rfl ?_ | refine LdN.one (a := some ⟨cb, 0, none⟩) (q := 2) (xs := [_, _, _, _, _]) _ rfl (fun w hw => hw.2.1) rfl ?_ | refine LdN.one (a := some ⟨cb, 0, none⟩) (q := 3) (xs := [_, _, _, _, _]) _ rfl (fun w hw => hw.2.1) rfl ?_ | refine LdN.one (a := some ⟨cb, 0, none⟩) (q := 4) (xs := [_, _, _, _, _]) _ rfl (fun w hw => hw.2.1) rfl ?_ | refine RwN.own ?_ | refine VrN.norm (wrap_i64 (by omega)) ?_ | refine VrN.keep ?_ | refine DrawN.calm (by decide +kernel) ?_ | refine Nd.mk (by decide +kernel) ?_ | refine Nd.mk (by omega) ?_ | (refine Nd.mk ?_ ?_; focus ((repeat' (first | exact trivial | exact wkE_refl _ | refine And.intro ?_ ?_)); done)) | refine RdN.intro _ rfl (by rfl) ?_); (conv => whnf))))
        refine brd_dec (fun h => absurd h (by omega)) (fun _ => ?_)
        ((conv => whnf); (repeat ((first | refine LdN.one (a := some ⟨cb, 0, none⟩) (q := 0) (xs := [_, _, _, _, _]) _ rfl (fun w hw => hw.2.1) rfl ?_ | refine LdN.one (a := some ⟨cb, 0, none⟩) (q := 1) (xs := [_, _, _, _, _]) _ rfl (fun w hw => hw.2.1) rfl ?_ | refine LdN.one (a := some ⟨cb, 0, none⟩) (q := 2) (xs := [_, _, _, _, _]) _ rfl (fun w hw => hw.2.1) rfl ?_ | refine LdN.one (a := some ⟨cb, 0, none⟩) (q := 3) (xs := [_, _, _, _, _]) _ rfl (fun w hw => hw.2.1) rfl ?_ | refine LdN.one (a := some ⟨cb, 0, none⟩) (q := 4) (xs := [_, _, _, _, _]) _ rfl (fun w hw => hw.2.1) rfl ?_ | refine RwN.own ?_ | refine VrN.norm (wrap_i64 (by omega)) ?_ | refine VrN.keep ?_ | refine DrawN.calm (by decide +kernel) ?_ | refine Nd.mk (by decide +kernel) ?_ | refine Nd.mk (by omega) ?_ | (refine Nd.mk ?_ ?_; focus ((repeat' (first | exact trivial | exact wkE_refl _ | refine And.intro ?_ ?_)); done)) | refine RdN.intro _ rfl (by rfl) ?_); (conv => whnf))))
        refine brd_dec (fun h => absurd h (by omega)) (fun _ => ?_)
        ((conv => whnf); (repeat ((first | refine LdN.one (a := some ⟨cb, 0, none⟩) (q := 0) (xs := [_, _, _, _, _]) _ rfl (fun w hw => hw.2.1) rfl ?_ | refine LdN.one (a := some ⟨cb, 0, none⟩) (q := 1) (xs := [_, _, _, _, _]) _ rfl (fun w hw => hw.2.1) rfl ?_ | refine LdN.one (a := some ⟨cb, 0, none⟩) (q := 2) (xs := [_, _, _, _, _]) _ rfl (fun w hw => hw.2.1) rfl ?_ | refine LdN.one (a := some ⟨cb, 0, none⟩) (q := 3) (xs := [_, _, _, _, _]) _ rfl (fun w hw => hw.2.1) rfl ?_ | refine LdN.one (a := some ⟨cb, 0, none⟩) (q := 4) (xs := [_, _, _, _, _]) _ rfl (fun w hw => hw.2.1) rfl ?_ | refine RwN.own ?_ | refine VrN.norm (wrap_i64 (by omega)) ?_ | refine VrN.keep ?_ | refine DrawN.calm (by decide +kernel) ?_ | refine Nd.mk (by decide +kernel) ?_ | refine Nd.mk (by omega) ?_ | (refine Nd.mk ?_ ?_; focus ((repeat' (first | exact trivial | exact wkE_refl _ | refine And.intro ?_ ?_)); done)) | refine RdN.intro _ rfl (by rfl) ?_); (conv => whnf))))
        -- 7: the kind
        refine call1 (isLeaf_c 7 _) ?_
        ((conv => whnf); (repeat ((first | refine LdN.one (a := some ⟨cb, 0, none⟩) (q := 0) (xs := [_, _, _, _, _]) _ rfl (fun w hw => hw.2.1) rfl ?_ | refine LdN.one (a := some ⟨cb, 0, none⟩) (q := 1) (xs := [_, _, _, _, _]) _ rfl (fun w hw => hw.2.1) rfl ?_ | refine LdN.one (a := some ⟨cb, 0, none⟩) (q := 2) (xs := [_, _, _, _, _]) _ rfl (fun w hw => hw.2.1) rfl ?_ | refine LdN.one (a := some ⟨cb, 0, none⟩) (q := 3) (xs := [_, _, _, _, _]) _ rfl (fun w hw => hw.2.1) rfl ?_ | refine LdN.one (a := some ⟨cb, 0, none⟩) (q := 4) (xs := [_, _, _, _, _]) _ rfl (fun w hw => hw.2.1) rfl ?_ | refine RwN.own ?_ | refine VrN.norm (wrap_i64 (by omega)) ?_ | refine VrN.keep ?_ | refine DrawN.calm (by decide +kernel) ?_ | refine Nd.mk (by decide +kernel) ?_ | refine Nd.mk (by omega) ?_ | (refine Nd.mk ?_ ?_; focus ((repeat' (first | exact trivial | exact wkE_refl _ | refine And.intro ?_ ?_)); done)) | refine RdN.intro _ rfl (by rfl) ?_); (conv => whnf))))
        refine brd_eq (fun h1 => ?_) (fun h1 => ?_)
        · have hn0 : names = [] := List.eq_nil_of_length_eq_zero (by omega)
          ((conv => whnf); (repeat ((first | refine LdN.one (a := some ⟨cb, 0, none⟩) (q := 0) (xs := [_, _, _, _, _]) _ rfl (fun w hw => hw.2.1) rfl ?_ | refine LdN.one (a := some ⟨cb, 0, none⟩) (q := 1) (xs := [_, _, _, _, _]) _ rfl (fun w hw => hw.2.1) rfl ?_ | refine LdN.one (a := some ⟨cb, 0, none⟩) (q := 2) (xs := [_, _, _, _, _]) _ rfl (fun w hw => hw.2.1) rfl ?_ | refine LdN.one (a := some ⟨cb, 0, none⟩) (q := 3) (xs := [_, _, _, _, _]) _ rfl (fun w hw => hw.2.1) rfl ?_ | refine LdN.one (a := some ⟨cb, 0, none⟩) (q := 4) (xs := [_, _, _, _, _]) _ rfl (fun w hw => hw.2.1) rfl ?_ | refine RwN.own ?_ | refine VrN.norm (wrap_i64 (by omega)) ?_ | refine VrN.keep ?_ | refine DrawN.calm (by decide +kernel) ?_ | refine Nd.mk (by decide +kernel) ?_ | refine Nd.mk (by omega) ?_ | (refine Nd.mk ?_ ?_; focus ((repeat' (first | exact trivial | exact wkE_refl _ | refine And.intro ?_ ?_)); done)) | refine RdN.intro _ rfl (by rfl) ?_); (conv => whnf))))
          exact out_bool (by
            have hmx : -Go.Core.maxI ≤ 0 ∧ (0 : Int) ≤ Go.Core.maxI := by decide
            rw [Bool.eq_iff_iff]
            unfold Go.Core.plainS
            simp [hn0, ht0, hu, hmx]
            try (rw [Int.tmod_eq_emod_of_nonneg (by omega)]; omega))
        · have hn0 : names ≠ [] := fun e => by rw [e] at h1; exact h1 rfl
          ((conv => whnf); (repeat ((first | refine LdN.one (a := some ⟨cb, 0, none⟩) (q := 0) (xs := [_, _, _, _, _]) _ rfl (fun w hw => hw.2.1) rfl ?_ | refine LdN.one (a := some ⟨cb, 0, none⟩) (q := 1) (xs := [_, _, _, _, _]) _ rfl (fun w hw => hw.2.1) rfl ?_ | refine LdN.one (a := some ⟨cb, 0, none⟩) (q := 2) (xs := [_, _, _, _, _]) _ rfl (fun w hw => hw.2.1) rfl ?_ | refine LdN.one (a := some ⟨cb, 0, none⟩) (q := 3) (xs := [_, _, _, _, _]) _ rfl (fun w hw => hw.2.1) rfl ?_ | refine LdN.one (a := some ⟨cb, 0, none⟩) (q := 4) (xs := [_, _, _, _, _]) _ rfl (fun w hw => hw.2.1) rfl ?_ | refine RwN.own ?_ | refine VrN.norm (wrap_i64 (by omega)) ?_ | refine VrN.keep ?_ | refine DrawN.calm (by decide +kernel) ?_ | refine Nd.mk (by decide +kernel) ?_ | refine Nd.mk (by omega) ?_ | (refine Nd.mk ?_ ?_; focus ((repeat' (first | exact trivial | exact wkE_refl _ | refine And.intro ?_ ?_)); done)) | refine RdN.intro _ rfl (by rfl) ?_); (conv => whnf))))
          exact out_bool (by unfold Go.Core.plainS; simp [hn0])
      · -- 8: the kind, icB text: what the map holds
        rw [show plWords text true true true 8 = some (.bool (icB text)) by simp [plWords]] at hj
        ((conv => whnf); (repeat ((first | refine LdN.one (a := some ⟨cb, 0, none⟩) (q := 0) (xs := [_, _, _, _, _]) _ rfl (fun w hw => hw.2.1) rfl ?_ | refine LdN.one (a := some ⟨cb, 0, none⟩) (q := 1) (xs := [_, _, _, _, _]) _ rfl (fun w hw => hw.2.1) rfl ?_ | refine LdN.one (a := some ⟨cb, 0, none⟩) (q := 2) (xs := [_, _, _, _, _]) _ rfl (fun w hw => hw.2.1) rfl ?_ | refine LdN.one (a := some ⟨cb, 0, none⟩) (q := 3) (xs := [_, _, _, _, _]) _ rfl (fun w hw => hw.2.1) rfl ?_ | refine LdN.one (a := some ⟨cb, 0, none⟩) (q := 4) (xs := [_, _, _, _, _]) _ rfl (fun w hw => hw.2.1) rfl ?_ | refine RwN.own ?_ | refine VrN.norm (wrap_i64 (by omega)) ?_ | refine VrN.keep ?_ | refine DrawN.calm (by decide +kernel) ?_ | refine Nd.mk (by decide +kernel) ?_ | refine Nd.mk (by omega) ?_ | (refine Nd.mk ?_ ?_; focus ((repeat' (first | exact trivial | exact wkE_refl _ | refine And.intro ?_ ?_)); done)) | refine RdN.intro _ rfl (by rfl) ?_); (conv => whnf))))
        refine ReadW.askMap (some (j, .bool (icB text))) rfl Tryz.underlying119 Tryz.underlying3 rfl rfl rfl rfl (fun w hw => hw.2.2.1) hj ?_
        ((conv => whnf); (repeat ((first | refine LdN.one (a := some ⟨cb, 0, none⟩) (q := 0) (xs := [_, _, _, _, _]) _ rfl (fun w hw => hw.2.1) rfl ?_ | refine LdN.one (a := some ⟨cb, 0, none⟩) (q := 1) (xs := [_, _, _, _, _]) _ rfl (fun w hw => hw.2.1) rfl ?_ | refine LdN.one (a := some ⟨cb, 0, none⟩) (q := 2) (xs := [_, _, _, _, _]) _ rfl (fun w hw => hw.2.1) rfl ?_ | refine LdN.one (a := some ⟨cb, 0, none⟩) (q := 3) (xs := [_, _, _, _, _]) _ rfl (fun w hw => hw.2.1) rfl ?_ | refine LdN.one (a := some ⟨cb, 0, none⟩) (q := 4) (xs := [_, _, _, _, _]) _ rfl (fun w hw => hw.2.1) rfl ?_ | refine RwN.own ?_ | refine VrN.norm (wrap_i64 (by omega)) ?_ | refine VrN.keep ?_ | refine DrawN.calm (by decide +kernel) ?_ | refine Nd.mk (by decide +kernel) ?_ | refine Nd.mk (by omega) ?_ | (refine Nd.mk ?_ ?_; focus ((repeat' (first | exact trivial | exact wkE_refl _ | refine And.intro ?_ ?_)); done)) | refine RdN.intro _ rfl (by rfl) ?_); (conv => whnf))))
        cases hf : icB text with
        | false =>
          ((conv => whnf); (repeat ((first | refine LdN.one (a := some ⟨cb, 0, none⟩) (q := 0) (xs := [_, _, _, _, _]) _ rfl (fun w hw => hw.2.1) rfl ?_ | refine LdN.one (a := some ⟨cb, 0, none⟩) (q := 1) (xs := [_, _, _, _, _]) _ rfl (fun w hw => hw.2.1) rfl ?_ | refine LdN.one (a := some ⟨cb, 0, none⟩) (q := 2) (xs := [_, _, _, _, _]) _ rfl (fun w hw => hw.2.1) rfl ?_ | refine LdN.one (a := some ⟨cb, 0, none⟩) (q := 3) (xs := [_, _, _, _, _]) _ rfl (fun w hw => hw.2.1) rfl ?_ | refine LdN.one (a := some ⟨cb, 0, none⟩) (q := 4) (xs := [_, _, _, _, _]) _ rfl (fun w hw => hw.2.1) rfl ?_ | refine RwN.own ?_ | refine VrN.norm (wrap_i64 (by omega)) ?_ | refine VrN.keep ?_ | refine DrawN.calm (by decide +kernel) ?_ | refine Nd.mk (by decide +kernel) ?_ | refine Nd.mk (by omega) ?_ | (refine Nd.mk ?_ ?_; focus ((repeat' (first | exact trivial | exact wkE_refl _ | refine And.intro ?_ ?_)); done)) | refine RdN.intro _ rfl (by rfl) ?_); (conv => whnf))))
          exact out_bool (by unfold Go.Core.plainS; simp [hf])
        | true =>
        ((conv => whnf); (repeat ((first | refine LdN.one (a := some ⟨cb, 0, none⟩) (q := 0) (xs := [_, _, _, _, _]) _ rfl (fun w hw => hw.2.1) rfl ?_ | refine LdN.one (a := some ⟨cb, 0, none⟩) (q := 1) (xs := [_, _, _, _, _]) _ rfl (fun w hw => hw.2.1) rfl ?_ | refine LdN.one (a := some ⟨cb, 0, none⟩) (q := 2) (xs := [_, _, _, _, _]) _ rfl (fun w hw => hw.2.1) rfl ?_ | refine LdN.one (a := some ⟨cb, 0, none⟩) (q := 3) (xs := [_, _, _, _, _]) _ rfl (fun w hw => hw.2.1) rfl ?_ | refine LdN.one (a := some ⟨cb, 0, none⟩) (q := 4) (xs := [_, _, _, _, _]) _ rfl (fun w hw => hw.2.1) rfl ?_ | refine RwN.own ?_ | refine VrN.norm (wrap_i64 (by omega)) ?_ | refine VrN.keep ?_ | refine DrawN.calm (by decide +kernel) ?_ | refine Nd.mk (by decide +kernel) ?_ | refine Nd.mk (by omega) ?_ | (refine Nd.mk ?_ ?_; focus ((repeat' (first | exact trivial | exact wkE_refl _ | refine And.intro ?_ ?_)); done)) | refine RdN.intro _ rfl (by rfl) ?_); (conv => whnf))))
        refine brd_ne (fun hu => ?_) (fun hu => ?_)
        · ((conv => whnf); (repeat ((first | refine LdN.one (a := some ⟨cb, 0, none⟩) (q := 0) (xs := [_, _, _, _, _]) _ rfl (fun w hw => hw.2.1) rfl ?_ | refine LdN.one (a := some ⟨cb, 0, none⟩) (q := 1) (xs := [_, _, _, _, _]) _ rfl (fun w hw => hw.2.1) rfl ?_ | refine LdN.one (a := some ⟨cb, 0, none⟩) (q := 2) (xs := [_, _, _, _, _]) _ rfl (fun w hw => hw.2.1) rfl ?_ | refine LdN.one (a := some ⟨cb, 0, none⟩) (q := 3) (xs := [_, _, _, _, _]) _ rfl (fun w hw => hw.2.1) rfl ?_ | refine LdN.one (a := some ⟨cb, 0, none⟩) (q := 4) (xs := [_, _, _, _, _]) _ rfl (fun w hw => hw.2.1) rfl ?_ | refine RwN.own ?_ | refine VrN.norm (wrap_i64 (by omega)) ?_ | refine VrN.keep ?_ | refine DrawN.calm (by decide +kernel) ?_ | refine Nd.mk (by decide +kernel) ?_ | refine Nd.mk (by omega) ?_ | (refine Nd.mk ?_ ?_; focus ((repeat' (first | exact trivial | exact wkE_refl _ | refine And.intro ?_ ?_)); done)) | refine RdN.intro _ rfl (by rfl) ?_); (conv => whnf))))
          exact out_bool (by unfold Go.Core.plainS; simp [hu])
        ((conv => whnf); (repeat ((first | refine LdN.one (a := some ⟨cb, 0, none⟩) (q := 0) (xs := [_, _, _, _, _]) _ rfl (fun w hw => hw.2.1) rfl ?_ | refine LdN.one (a := some ⟨cb, 0, none⟩) (q := 1) (xs := [_, _, _, _, _]) _ rfl (fun w hw => hw.2.1) rfl ?_ | refine LdN.one (a := some ⟨cb, 0, none⟩) (q := 2) (xs := [_, _, _, _, _]) _ rfl (fun w hw => hw.2.1) rfl ?_ | refine LdN.one (a := some ⟨cb, 0, none⟩) (q := 3) (xs := [_, _, _, _, _]) _ rfl (fun w hw => hw.2.1) rfl ?_ | refine LdN.one (a := some ⟨cb, 0, none⟩) (q := 4) (xs := [_, _, _, _, _]) _ rfl (fun w hw => hw.2.1) rfl ?_ | refine RwN.own ?_ | refine VrN.norm (wrap_i64 (by omega)) ?_ | refine VrN.keep ?_ | refine DrawN.calm (by decide +kernel) ?_ | refine Nd.mk (by decide +kernel) ?_ | refine Nd.mk (by omega) ?_ | (refine Nd.mk ?_ ?_; focus ((repeat' (first | exact trivial | exact wkE_refl _ | refine And.intro ?_ ?_)); done)) | refine RdN.intro _ rfl (by rfl) ?_); (conv => whnf))))
        refine brd_dec (fun h => absurd h (by omega)) (fun _ => ?_)
        ((conv => whnf); (repeat ((first | refine LdN.one (a := some ⟨cb, 0, none⟩) (q := 0) (xs := [_, _, _, _, _]) _ rfl (fun w hw => hw.2.1) rfl ?_ | refine LdN.one (a := some ⟨cb, 0, none⟩) (q := 1) (xs := [_, _, _, _, _]) _ rfl (fun w hw => hw.2.1) rfl ?_ | refine LdN.one (a := some ⟨cb, 0, none⟩) (q := 2) (xs := [_, _, _, _, _]) _ rfl (fun w hw => hw.2.1) rfl ?_ | refine LdN.one (a := some ⟨cb, 0, none⟩) (q := 3) (xs := [_, _, _, _, _]) _ rfl (fun w hw => hw.2.1) rfl ?_ | refine LdN.one (a := some ⟨cb, 0, none⟩) (q := 4) (xs := [_, _, _, _, _]) _ rfl (fun w hw => hw.2.1) rfl ?_ | refine RwN.own ?_ | refine VrN.norm (wrap_i64 (by omega)) ?_ | refine VrN.keep ?_ | refine DrawN.calm (by decide +kernel) ?_ | refine Nd.mk (by decide +kernel) ?_ | refine Nd.mk (by omega) ?_ | (refine Nd.mk ?_ ?_; focus ((repeat' (first | exact trivial | exact wkE_refl _ | refine And.intro ?_ ?_)); done)) | refine RdN.intro _ rfl (by rfl) ?_); (conv => whnf))))
        refine brd_dec (fun h => absurd h (by omega)) (fun _ => ?_)
        ((conv => whnf); (repeat ((first | refine LdN.one (a := some ⟨cb, 0, none⟩) (q := 0) (xs := [_, _, _, _, _]) _ rfl (fun w hw => hw.2.1) rfl ?_ | refine LdN.one (a := some ⟨cb, 0, none⟩) (q := 1) (xs := [_, _, _, _, _]) _ rfl (fun w hw => hw.2.1) rfl ?_ | refine LdN.one (a := some ⟨cb, 0, none⟩) (q := 2) (xs := [_, _, _, _, _]) _ rfl (fun w hw => hw.2.1) rfl ?_ | refine LdN.one (a := some ⟨cb, 0, none⟩) (q := 3) (xs := [_, _, _, _, _]) _ rfl (fun w hw => hw.2.1) rfl ?_ | refine LdN.one (a := some ⟨cb, 0, none⟩) (q := 4) (xs := [_, _, _, _, _]) _ rfl (fun w hw => hw.2.1) rfl ?_ | refine RwN.own ?_ | refine VrN.norm (wrap_i64 (by omega)) ?_ | refine VrN.keep ?_ | refine DrawN.calm (by decide +kernel) ?_ | refine Nd.mk (by decide +kernel) ?_ | refine Nd.mk (by omega) ?_ | (refine Nd.mk ?_ ?_; focus ((repeat' (first | exact trivial | exact wkE_refl _ | refine And.intro ?_ ?_)); done)) | refine RdN.intro _ rfl (by rfl) ?_); (conv => whnf))))
        refine call1 (isLeaf_c 8 _) ?_
        ((conv => whnf); (repeat ((first | refine LdN.one (a := some ⟨cb, 0, none⟩) (q := 0) (xs := [_, _, _, _, _]) _ rfl (fun w hw => hw.2.1) rfl ?_ | refine LdN.one (a := some ⟨cb, 0, none⟩) (q := 1) (xs := [_, _, _, _, _]) _ rfl (fun w hw => hw.2.1) rfl ?_ | refine LdN.one (a := some ⟨cb, 0, none⟩) (q := 2) (xs := [_, _, _, _, _]) _ rfl (fun w hw => hw.2.1) rfl ?_ | refine LdN.one (a := some ⟨cb, 0, none⟩) (q := 3) (xs := [_, _, _, _, _]) _ rfl (fun w hw => hw.2.1) rfl ?_ | refine LdN.one (a := some ⟨cb, 0, none⟩) (q := 4) (xs := [_, _, _, _, _]) _ rfl (fun w hw => hw.2.1) rfl ?_ | refine RwN.own ?_ | refine VrN.norm (wrap_i64 (by omega)) ?_ | refine VrN.keep ?_ | refine DrawN.calm (by decide +kernel) ?_ | refine Nd.mk (by decide +kernel) ?_ | refine Nd.mk (by omega) ?_ | (refine Nd.mk ?_ ?_; focus ((repeat' (first | exact trivial | exact wkE_refl _ | refine And.intro ?_ ?_)); done)) | refine RdN.intro _ rfl (by rfl) ?_); (conv => whnf))))
        refine spec_of_exec hm Tryz.func87 (by kernel_rfl) rfl rfl ?_
        (first | refine wXB ?_ | exact wZB)
        refine BoxN.known [.slice na names.length nc] rfl fun vb => ?_
        ((conv => whnf); (repeat ((first | refine LdN.one (a := some ⟨cb, 0, none⟩) (q := 0) (xs := [_, _, _, _, _]) _ rfl (fun w hw => hw.2.1) rfl ?_ | refine LdN.one (a := some ⟨cb, 0, none⟩) (q := 1) (xs := [_, _, _, _, _]) _ rfl (fun w hw => hw.2.1) rfl ?_ | refine LdN.one (a := some ⟨cb, 0, none⟩) (q := 2) (xs := [_, _, _, _, _]) _ rfl (fun w hw => hw.2.1) rfl ?_ | refine LdN.one (a := some ⟨cb, 0, none⟩) (q := 3) (xs := [_, _, _, _, _]) _ rfl (fun w hw => hw.2.1) rfl ?_ | refine LdN.one (a := some ⟨cb, 0, none⟩) (q := 4) (xs := [_, _, _, _, _]) _ rfl (fun w hw => hw.2.1) rfl ?_ | refine RwN.own ?_ | refine VrN.norm (wrap_i64 (by omega)) ?_ | refine VrN.keep ?_ | refine DrawN.calm (by decide +kernel) ?_ | refine Nd.mk (by decide +kernel) ?_ | refine Nd.mk (by omega) ?_ | (refine Nd.mk ?_ ?_; focus ((repeat' (first | exact trivial | exact wkE_refl _ | refine And.intro ?_ ?_)); done)) | refine RdN.intro _ rfl (by rfl) ?_); (conv => whnf))))
        refine spec_of_exec hm Tryz.func86 (by kernel_rfl) rfl rfl ?_
        ((conv => whnf); (repeat ((first | refine LdN.one (a := some ⟨cb, 0, none⟩) (q := 0) (xs := [_, _, _, _, _]) _ rfl (fun w hw => hw.2.1) rfl ?_ | refine LdN.one (a := some ⟨cb, 0, none⟩) (q := 1) (xs := [_, _, _, _, _]) _ rfl (fun w hw => hw.2.1) rfl ?_ | refine LdN.one (a := some ⟨cb, 0, none⟩) (q := 2) (xs := [_, _, _, _, _]) _ rfl (fun w hw => hw.2.1) rfl ?_ | refine LdN.one (a := some ⟨cb, 0, none⟩) (q := 3) (xs := [_, _, _, _, _]) _ rfl (fun w hw => hw.2.1) rfl ?_ | refine LdN.one (a := some ⟨cb, 0, none⟩) (q := 4) (xs := [_, _, _, _, _]) _ rfl (fun w hw => hw.2.1) rfl ?_ | refine RwN.own ?_ | refine VrN.norm (wrap_i64 (by omega)) ?_ | refine VrN.keep ?_ | refine DrawN.calm (by decide +kernel) ?_ | refine Nd.mk (by decide +kernel) ?_ | refine Nd.mk (by omega) ?_ | (refine Nd.mk ?_ ?_; focus ((repeat' (first | exact trivial | exact wkE_refl _ | refine And.intro ?_ ?_)); done)) | refine RdN.intro _ rfl (by rfl) ?_); (conv => whnf))))
        refine spec_of_exec hm Tryz.func112 (by kernel_rfl) rfl rfl ?_
        ((conv => whnf); (repeat ((first | refine LdN.one (a := some ⟨cb, 0, none⟩) (q := 0) (xs := [_, _, _, _, _]) _ rfl (fun w hw => hw.2.1) rfl ?_ | refine LdN.one (a := some ⟨cb, 0, none⟩) (q := 1) (xs := [_, _, _, _, _]) _ rfl (fun w hw => hw.2.1) rfl ?_ | refine LdN.one (a := some ⟨cb, 0, none⟩) (q := 2) (xs := [_, _, _, _, _]) _ rfl (fun w hw => hw.2.1) rfl ?_ | refine LdN.one (a := some ⟨cb, 0, none⟩) (q := 3) (xs := [_, _, _, _, _]) _ rfl (fun w hw => hw.2.1) rfl ?_ | refine LdN.one (a := some ⟨cb, 0, none⟩) (q := 4) (xs := [_, _, _, _, _]) _ rfl (fun w hw => hw.2.1) rfl ?_ | refine RwN.own ?_ | refine VrN.norm (wrap_i64 (by omega)) ?_ | refine VrN.keep ?_ | refine DrawN.calm (by decide +kernel) ?_ | refine Nd.mk (by decide +kernel) ?_ | refine Nd.mk (by omega) ?_ | (refine Nd.mk ?_ ?_; focus ((repeat' (first | exact trivial | exact wkE_refl _ | refine And.intro ?_ ?_)); done)) | refine RdN.intro _ rfl (by rfl) ?_); (conv => whnf))))
        refine SpecH.args (args' := pvs [.slice none 0 0, .func (.func 114) #[] #[.pointer (some ⟨vb, 0, none⟩)]]) (by simp [pvs, opvs, opv, nth, plainEv]; try rfl) ?_
        refine AppendSeq_c vb nc na names (by omega) (fun w hw => ⟨?_, hw.1.1⟩) (fun h0 => ?_) (fun b2 c2 hc2 => ?_)
        · have := (hw.2.2.2.1).2.2 0 (by simp)
          exact this
        · have hnn : names = [] := List.eq_nil_of_length_eq_zero h0
          ((conv => whnf); (repeat ((first | refine LdN.one (a := some ⟨cb, 0, none⟩) (q := 0) (xs := [_, _, _, _, _]) _ rfl (fun w hw => hw.2.1) rfl ?_ | refine LdN.one (a := some ⟨cb, 0, none⟩) (q := 1) (xs := [_, _, _, _, _]) _ rfl (fun w hw => hw.2.1) rfl ?_ | refine LdN.one (a := some ⟨cb, 0, none⟩) (q := 2) (xs := [_, _, _, _, _]) _ rfl (fun w hw => hw.2.1) rfl ?_ | refine LdN.one (a := some ⟨cb, 0, none⟩) (q := 3) (xs := [_, _, _, _, _]) _ rfl (fun w hw => hw.2.1) rfl ?_ | refine LdN.one (a := some ⟨cb, 0, none⟩) (q := 4) (xs := [_, _, _, _, _]) _ rfl (fun w hw => hw.2.1) rfl ?_ | refine RwN.own ?_ | refine VrN.norm (wrap_i64 (by omega)) ?_ | refine VrN.keep ?_ | refine DrawN.calm (by decide +kernel) ?_ | refine Nd.mk (by decide +kernel) ?_ | refine Nd.mk (by omega) ?_ | (refine Nd.mk ?_ ?_; focus ((repeat' (first | exact trivial | exact wkE_refl _ | refine And.intro ?_ ?_)); done)) | refine RdN.intro _ rfl (by rfl) ?_); (conv => whnf))))
          refine SpecH.args (args' := pvs [.slice none 0 0]) (by simp [pvs, opvs, opv, nth, plainEv]; try rfl) ?_
          refine SortNil_c none 0 ?_
          ((conv => whnf); (repeat ((first | refine LdN.one (a := some ⟨cb, 0, none⟩) (q := 0) (xs := [_, _, _, _, _]) _ rfl (fun w hw => hw.2.1) rfl ?_ | refine LdN.one (a := some ⟨cb, 0, none⟩) (q := 1) (xs := [_, _, _, _, _]) _ rfl (fun w hw => hw.2.1) rfl ?_ | refine LdN.one (a := some ⟨cb, 0, none⟩) (q := 2) (xs := [_, _, _, _, _]) _ rfl (fun w hw => hw.2.1) rfl ?_ | refine LdN.one (a := some ⟨cb, 0, none⟩) (q := 3) (xs := [_, _, _, _, _]) _ rfl (fun w hw => hw.2.1) rfl ?_ | refine LdN.one (a := some ⟨cb, 0, none⟩) (q := 4) (xs := [_, _, _, _, _]) _ rfl (fun w hw => hw.2.1) rfl ?_ | refine RwN.own ?_ | refine VrN.norm (wrap_i64 (by omega)) ?_ | refine VrN.keep ?_ | refine DrawN.calm (by decide +kernel) ?_ | refine Nd.mk (by decide +kernel) ?_ | refine Nd.mk (by omega) ?_ | (refine Nd.mk ?_ ?_; focus ((repeat' (first | exact trivial | exact wkE_refl _ | refine And.intro ?_ ?_)); done)) | refine RdN.intro _ rfl (by rfl) ?_); (conv => whnf))))
          refine brd_eq (fun hln => ?_) (fun hln => ?_)
          · ((conv => whnf); (repeat ((first | refine LdN.one (a := some ⟨cb, 0, none⟩) (q := 0) (xs := [_, _, _, _, _]) _ rfl (fun w hw => hw.2.1) rfl ?_ | refine LdN.one (a := some ⟨cb, 0, none⟩) (q := 1) (xs := [_, _, _, _, _]) _ rfl (fun w hw => hw.2.1) rfl ?_ | refine LdN.one (a := some ⟨cb, 0, none⟩) (q := 2) (xs := [_, _, _, _, _]) _ rfl (fun w hw => hw.2.1) rfl ?_ | refine LdN.one (a := some ⟨cb, 0, none⟩) (q := 3) (xs := [_, _, _, _, _]) _ rfl (fun w hw => hw.2.1) rfl ?_ | refine LdN.one (a := some ⟨cb, 0, none⟩) (q := 4) (xs := [_, _, _, _, _]) _ rfl (fun w hw => hw.2.1) rfl ?_ | refine RwN.own ?_ | refine VrN.norm (wrap_i64 (by omega)) ?_ | refine VrN.keep ?_ | refine DrawN.calm (by decide +kernel) ?_ | refine Nd.mk (by decide +kernel) ?_ | refine Nd.mk (by omega) ?_ | (refine Nd.mk ?_ ?_; focus ((repeat' (first | exact trivial | exact wkE_refl _ | refine And.intro ?_ ?_)); done)) | refine RdN.intro _ rfl (by rfl) ?_); (conv => whnf))))
            refine callQ (CompactN_c none 0 _) ?_
            ((conv => whnf); (repeat ((first | refine LdN.one (a := some ⟨cb, 0, none⟩) (q := 0) (xs := [_, _, _, _, _]) _ rfl (fun w hw => hw.2.1) rfl ?_ | refine LdN.one (a := some ⟨cb, 0, none⟩) (q := 1) (xs := [_, _, _, _, _]) _ rfl (fun w hw => hw.2.1) rfl ?_ | refine LdN.one (a := some ⟨cb, 0, none⟩) (q := 2) (xs := [_, _, _, _, _]) _ rfl (fun w hw => hw.2.1) rfl ?_ | refine LdN.one (a := some ⟨cb, 0, none⟩) (q := 3) (xs := [_, _, _, _, _]) _ rfl (fun w hw => hw.2.1) rfl ?_ | refine LdN.one (a := some ⟨cb, 0, none⟩) (q := 4) (xs := [_, _, _, _, _]) _ rfl (fun w hw => hw.2.1) rfl ?_ | refine RwN.own ?_ | refine VrN.norm (wrap_i64 (by omega)) ?_ | refine VrN.keep ?_ | refine DrawN.calm (by decide +kernel) ?_ | refine Nd.mk (by decide +kernel) ?_ | refine Nd.mk (by omega) ?_ | (refine Nd.mk ?_ ?_; focus ((repeat' (first | exact trivial | exact wkE_refl _ | refine And.intro ?_ ?_)); done)) | refine RdN.intro _ rfl (by rfl) ?_); (conv => whnf))))
            refine brd_eq (fun _ => ?_) (fun h => absurd (show (0 : Int) = (names.length : Int) by omega) h)
            ((conv => whnf); (repeat ((first | refine LdN.one (a := some ⟨cb, 0, none⟩) (q := 0) (xs := [_, _, _, _, _]) _ rfl (fun w hw => hw.2.1) rfl ?_ | refine LdN.one (a := some ⟨cb, 0, none⟩) (q := 1) (xs := [_, _, _, _, _]) _ rfl (fun w hw => hw.2.1) rfl ?_ | refine LdN.one (a := some ⟨cb, 0, none⟩) (q := 2) (xs := [_, _, _, _, _]) _ rfl (fun w hw => hw.2.1) rfl ?_ | refine LdN.one (a := some ⟨cb, 0, none⟩) (q := 3) (xs := [_, _, _, _, _]) _ rfl (fun w hw => hw.2.1) rfl ?_ | refine LdN.one (a := some ⟨cb, 0, none⟩) (q := 4) (xs := [_, _, _, _, _]) _ rfl (fun w hw => hw.2.1) rfl ?_ | refine RwN.own ?_ | refine VrN.norm (wrap_i64 (by omega)) ?_ | refine VrN.keep ?_ | refine DrawN.calm (by decide +kernel) ?_ | refine Nd.mk (by decide +kernel) ?_ | refine Nd.mk (by omega) ?_ | (refine Nd.mk ?_ ?_; focus ((repeat' (first | exact trivial | exact wkE_refl _ | refine And.intro ?_ ?_)); done)) | refine RdN.intro _ rfl (by rfl) ?_); (conv => whnf))))
            refine callQ (HasS_c (fun s => !iiB s) 90 #[] (fun _ => True) na nc names (fun p hp H _ => plain1_c p (hnw p hp) H) hna (by omega) _ (fun w hw => ⟨hw.1.1, trivial⟩)) ?_
            ((conv => whnf); (repeat ((first | refine LdN.one (a := some ⟨cb, 0, none⟩) (q := 0) (xs := [_, _, _, _, _]) _ rfl (fun w hw => hw.2.1) rfl ?_ | refine LdN.one (a := some ⟨cb, 0, none⟩) (q := 1) (xs := [_, _, _, _, _]) _ rfl (fun w hw => hw.2.1) rfl ?_ | refine LdN.one (a := some ⟨cb, 0, none⟩) (q := 2) (xs := [_, _, _, _, _]) _ rfl (fun w hw => hw.2.1) rfl ?_ | refine LdN.one (a := some ⟨cb, 0, none⟩) (q := 3) (xs := [_, _, _, _, _]) _ rfl (fun w hw => hw.2.1) rfl ?_ | refine LdN.one (a := some ⟨cb, 0, none⟩) (q := 4) (xs := [_, _, _, _, _]) _ rfl (fun w hw => hw.2.1) rfl ?_ | refine RwN.own ?_ | refine VrN.norm (wrap_i64 (by omega)) ?_ | refine VrN.keep ?_ | refine DrawN.calm (by decide +kernel) ?_ | refine Nd.mk (by decide +kernel) ?_ | refine Nd.mk (by omega) ?_ | (refine Nd.mk ?_ ?_; focus ((repeat' (first | exact trivial | exact wkE_refl _ | refine And.intro ?_ ?_)); done)) | refine RdN.intro _ rfl (by rfl) ?_); (conv => whnf))))
            exact out_bool (by
              have hmx : -Go.Core.maxI ≤ 0 ∧ (0 : Int) ≤ Go.Core.maxI := by decide
              have hi0 : items.length = 0 := by omega
              unfold Go.Core.plainS
              simp [hnn, hu, hmx, hf, hi0])
          · ((conv => whnf); (repeat ((first | refine LdN.one (a := some ⟨cb, 0, none⟩) (q := 0) (xs := [_, _, _, _, _]) _ rfl (fun w hw => hw.2.1) rfl ?_ | refine LdN.one (a := some ⟨cb, 0, none⟩) (q := 1) (xs := [_, _, _, _, _]) _ rfl (fun w hw => hw.2.1) rfl ?_ | refine LdN.one (a := some ⟨cb, 0, none⟩) (q := 2) (xs := [_, _, _, _, _]) _ rfl (fun w hw => hw.2.1) rfl ?_ | refine LdN.one (a := some ⟨cb, 0, none⟩) (q := 3) (xs := [_, _, _, _, _]) _ rfl (fun w hw => hw.2.1) rfl ?_ | refine LdN.one (a := some ⟨cb, 0, none⟩) (q := 4) (xs := [_, _, _, _, _]) _ rfl (fun w hw => hw.2.1) rfl ?_ | refine RwN.own ?_ | refine VrN.norm (wrap_i64 (by omega)) ?_ | refine VrN.keep ?_ | refine DrawN.calm (by decide +kernel) ?_ | refine Nd.mk (by decide +kernel) ?_ | refine Nd.mk (by omega) ?_ | (refine Nd.mk ?_ ?_; focus ((repeat' (first | exact trivial | exact wkE_refl _ | refine And.intro ?_ ?_)); done)) | refine RdN.intro _ rfl (by rfl) ?_); (conv => whnf))))
            exact out_bool (by
              have : ¬ names.length = items.length := by omega
              unfold Go.Core.plainS; simp [this])
        · ((conv => whnf); (repeat ((first | refine LdN.one (a := some ⟨cb, 0, none⟩) (q := 0) (xs := [_, _, _, _, _]) _ rfl (fun w hw => hw.2.1) rfl ?_ | refine LdN.one (a := some ⟨cb, 0, none⟩) (q := 1) (xs := [_, _, _, _, _]) _ rfl (fun w hw => hw.2.1) rfl ?_ | refine LdN.one (a := some ⟨cb, 0, none⟩) (q := 2) (xs := [_, _, _, _, _]) _ rfl (fun w hw => hw.2.1) rfl ?_ | refine LdN.one (a := some ⟨cb, 0, none⟩) (q := 3) (xs := [_, _, _, _, _]) _ rfl (fun w hw => hw.2.1) rfl ?_ | refine LdN.one (a := some ⟨cb, 0, none⟩) (q := 4) (xs := [_, _, _, _, _]) _ rfl (fun w hw => hw.2.1) rfl ?_ | refine RwN.own ?_ | refine VrN.norm (wrap_i64 (by omega)) ?_ | refine VrN.keep ?_ | refine DrawN.calm (by decide +kernel) ?_ | refine Nd.mk (by decide +kernel) ?_ | refine Nd.mk (by omega) ?_ | (refine Nd.mk ?_ ?_; focus ((repeat' (first | exact trivial | exact wkE_refl _ | refine And.intro ?_ ?_)); done)) | refine RdN.intro _ rfl (by rfl) ?_); (conv => whnf))))
          refine SpecH.args (args' := pvs [.slice (some ⟨b2, 0, none⟩) names.length c2]) (by simp [pvs, opvs, opv, nth, plainEv]; try rfl) ?_
          refine Sort_c 4 names b2 c2 (by omega) rfl ?_
          ((conv => whnf); (repeat ((first | refine LdN.one (a := some ⟨cb, 0, none⟩) (q := 0) (xs := [_, _, _, _, _]) _ rfl (fun w hw => hw.2.1) rfl ?_ | refine LdN.one (a := some ⟨cb, 0, none⟩) (q := 1) (xs := [_, _, _, _, _]) _ rfl (fun w hw => hw.2.1) rfl ?_ | refine LdN.one (a := some ⟨cb, 0, none⟩) (q := 2) (xs := [_, _, _, _, _]) _ rfl (fun w hw => hw.2.1) rfl ?_ | refine LdN.one (a := some ⟨cb, 0, none⟩) (q := 3) (xs := [_, _, _, _, _]) _ rfl (fun w hw => hw.2.1) rfl ?_ | refine LdN.one (a := some ⟨cb, 0, none⟩) (q := 4) (xs := [_, _, _, _, _]) _ rfl (fun w hw => hw.2.1) rfl ?_ | refine RwN.own ?_ | refine VrN.norm (wrap_i64 (by omega)) ?_ | refine VrN.keep ?_ | refine Nd.mk (by decide +kernel) ?_ | refine Nd.mk (by omega) ?_ | (refine Nd.mk ?_ ?_; focus ((repeat' (first | exact trivial | exact wkE_refl _ | refine And.intro ?_ ?_)); done)) | refine RdN.intro _ rfl (by rfl) ?_); (conv => whnf))))
          refine DrawN.planR hm (fun w => SlAt (some ⟨cb, 0, none⟩) 5 [.int .i64 8, .int .i64 num, .string (bs text), .slice na names.length nc, .slice ia items.length ic] w) [0, 3] [(1, 1), (2, 1), (4, 1), (5, 1), (6, 1), (7, 1), (8, 1), (11, 1), (12, 1), (13, 1), (9, 0), (10, 1), (14, 1), (15, 1), (16, 1), (17, 1), (18, 1), (19, 0), (20, 1), (21, 1), (22, 1)] (by decide +kernel) (fun w hw => hw.2.1) ?_
          -- fun w hw => hw.2.1: why the kind holds
          ((conv => whnf); (repeat ((first | refine Nd.mk (fun w hw => hw.2.1) ?_ | refine VrN.norm (wrap_i64 (by omega)) ?_ | refine VrN.keep ?_ | refine Nd.mk (by decide +kernel) ?_ | refine Nd.mk (by omega) ?_ | refine RdN.intro _ rfl (by rfl) ?_); (conv => whnf))))
          -- []string: the type, 109: the operand, 3: the field, .slice na names.length nc: the value
          refine ReadC.one (T := 40) (x := .tmp 109) (a := some ⟨cb, 0, none⟩) (q := 3) (k := 5) (xs := [.int .i64 8, .int .i64 num, .string (bs text), .slice na names.length nc, .slice ia items.length ic]) (.slice na names.length nc) ?_ ?_ ?_ ?_ ?_ ?_
          · rfl
          · rfl
          · rfl
          · exact fun w hw => hw
          · rfl
          -- fun w hw => hw.2.1: why the kind holds
          ((conv => whnf); (repeat ((first | refine Nd.mk (fun w hw => hw.2.1) ?_ | refine VrN.norm (wrap_i64 (by omega)) ?_ | refine VrN.keep ?_ | refine Nd.mk (by decide +kernel) ?_ | refine Nd.mk (by omega) ?_ | refine RdN.intro _ rfl (by rfl) ?_); (conv => whnf))))
          -- []string: the type, 110: the operand, (p := na) (n := names.length) (c := nc): the slice
          refine BlindW.len (x := .tmp 110) (T := 40) (p := na) (n := names.length) (c := nc) rfl rfl rfl Tryz.underlying40 ?_ ?_
          · rfl
          -- fun w hw => hw.2.1: why the kind holds
          ((conv => whnf); (repeat ((first | refine Nd.mk (fun w hw => hw.2.1) ?_ | refine VrN.norm (wrap_i64 (by omega)) ?_ | refine VrN.keep ?_ | refine Nd.mk (by decide +kernel) ?_ | refine Nd.mk (by omega) ?_ | refine RdN.intro _ rfl (by rfl) ?_); (conv => whnf))))
          -- []int: the type, 112: the operand, 4: the field, .slice ia items.length ic: the value
          refine ReadC.one (T := 35) (x := .tmp 112) (a := some ⟨cb, 0, none⟩) (q := 4) (k := 5) (xs := [.int .i64 8, .int .i64 num, .string (bs text), .slice na names.length nc, .slice ia items.length ic]) (.slice ia items.length ic) ?_ ?_ ?_ ?_ ?_ ?_
          · rfl
          · rfl
          · rfl
          · exact fun w hw => hw
          · rfl
          -- fun w hw => hw.2.1: why the kind holds
          ((conv => whnf); (repeat ((first | refine Nd.mk (fun w hw => hw.2.1) ?_ | refine VrN.norm (wrap_i64 (by omega)) ?_ | refine VrN.keep ?_ | refine Nd.mk (by decide +kernel) ?_ | refine Nd.mk (by omega) ?_ | refine RdN.intro _ rfl (by rfl) ?_); (conv => whnf))))
          -- []int: the type, 113: the operand, (p := ia) (n := items.length) (c := ic): the slice
          refine BlindW.len (x := .tmp 113) (T := 35) (p := ia) (n := items.length) (c := ic) rfl rfl rfl Tryz.underlying35 ?_ ?_
          · rfl
          -- fun w hw => hw.2.1: why the kind holds
          ((conv => whnf); (repeat ((first | refine Nd.mk (fun w hw => hw.2.1) ?_ | refine VrN.norm (wrap_i64 (by omega)) ?_ | refine VrN.keep ?_ | refine Nd.mk (by decide +kernel) ?_ | refine Nd.mk (by omega) ?_ | refine RdN.intro _ rfl (by rfl) ?_); (conv => whnf))))
          refine brd_eq (fun hln => ?_) (fun hln => ?_)
          · -- fun w hw => hw.2.1: why the kind holds
            ((conv => whnf); (repeat ((first | refine Nd.mk (fun w hw => hw.2.1) ?_ | refine VrN.norm (wrap_i64 (by omega)) ?_ | refine VrN.keep ?_ | refine Nd.mk (by decide +kernel) ?_ | refine Nd.mk (by omega) ?_ | refine RdN.intro _ rfl (by rfl) ?_); (conv => whnf))))
            -- []string: the type, 120: the operand, 3: the field, .slice na names.length nc: the value
            refine ReadC.one (T := 40) (x := .tmp 120) (a := some ⟨cb, 0, none⟩) (q := 3) (k := 5) (xs := [.int .i64 8, .int .i64 num, .string (bs text), .slice na names.length nc, .slice ia items.length ic]) (.slice na names.length nc) ?_ ?_ ?_ ?_ ?_ ?_
            · rfl
            · rfl
            · rfl
            · exact fun w hw => hw
            · rfl
            -- fun w hw => hw.2.1: why the kind holds
            ((conv => whnf); (repeat ((first | refine Nd.mk (fun w hw => hw.2.1) ?_ | refine VrN.norm (wrap_i64 (by omega)) ?_ | refine VrN.keep ?_ | refine Nd.mk (by decide +kernel) ?_ | refine Nd.mk (by omega) ?_ | refine RdN.intro _ rfl (by rfl) ?_); (conv => whnf))))
            -- []string: the type, 121: the operand, (p := na) (n := names.length) (c := nc): the slice
            refine BlindW.len (x := .tmp 121) (T := 40) (p := na) (n := names.length) (c := nc) rfl rfl rfl Tryz.underlying40 ?_ ?_
            · rfl
            -- fun w hw => hw.2.1: why the kind holds
            ((conv => whnf); (repeat ((first | refine Nd.mk (fun w hw => hw.2.1) ?_ | refine VrN.norm (wrap_i64 (by omega)) ?_ | refine VrN.keep ?_ | refine Nd.mk (by decide +kernel) ?_ | refine Nd.mk (by omega) ?_ | refine RdN.intro _ rfl (by rfl) ?_); (conv => whnf))))
            refine Compact_n 4 (sortS names) names.length (sortS_len names) b2 c2 (by omega) hc2 rfl fun ys => ?_
            -- fun w hw => hw.2.1: why the kind holds
            ((conv => whnf); (repeat ((first | refine Nd.mk (fun w hw => hw.2.1) ?_ | refine VrN.norm (wrap_i64 (by omega)) ?_ | refine VrN.keep ?_ | refine Nd.mk (by decide +kernel) ?_ | refine Nd.mk (by omega) ?_ | refine RdN.intro _ rfl (by rfl) ?_); (conv => whnf))))
            -- []string: the type, 118: the operand, (p := some ⟨b2, 0, none⟩) (n := (Lib.compact (sortS names)).length) (c := c2): the slice
            refine BlindW.len (x := .tmp 118) (T := 40) (p := some ⟨b2, 0, none⟩) (n := (Lib.compact (sortS names)).length) (c := c2) rfl rfl rfl Tryz.underlying40 ?_ ?_
            · rfl
            -- fun w hw => hw.2.1: why the kind holds
            ((conv => whnf); (repeat ((first | refine Nd.mk (fun w hw => hw.2.1) ?_ | refine VrN.norm (wrap_i64 (by omega)) ?_ | refine VrN.keep ?_ | refine Nd.mk (by decide +kernel) ?_ | refine Nd.mk (by omega) ?_ | refine RdN.intro _ rfl (by rfl) ?_); (conv => whnf))))
            have hcs := compact_sort names
            refine brd_eq (fun hcp => ?_) (fun hcp => ?_)
            · -- fun w hw => hw.2.1: why the kind holds
              ((conv => whnf); (repeat ((first | refine Nd.mk (fun w hw => hw.2.1) ?_ | refine VrN.norm (wrap_i64 (by omega)) ?_ | refine VrN.keep ?_ | refine Nd.mk (by decide +kernel) ?_ | refine Nd.mk (by omega) ?_ | refine RdN.intro _ rfl (by rfl) ?_); (conv => whnf))))
              -- []string: the type, 126: the operand, 3: the field, .slice na names.length nc: the value
              refine ReadC.one (T := 40) (x := .tmp 126) (a := some ⟨cb, 0, none⟩) (q := 3) (k := 5) (xs := [.int .i64 8, .int .i64 num, .string (bs text), .slice na names.length nc, .slice ia items.length ic]) (.slice na names.length nc) ?_ ?_ ?_ ?_ ?_ ?_
              · rfl
              · rfl
              · rfl
              · exact fun w hw => hw
              · rfl
              -- fun w hw => hw.2.1: why the kind holds
              ((conv => whnf); (repeat ((first | refine Nd.mk (fun w hw => hw.2.1) ?_ | refine VrN.norm (wrap_i64 (by omega)) ?_ | refine VrN.keep ?_ | refine Nd.mk (by decide +kernel) ?_ | refine Nd.mk (by omega) ?_ | refine RdN.intro _ rfl (by rfl) ?_); (conv => whnf))))
              refine call1 (HasS_c (fun s => !iiB s) 90 #[] (fun _ => True) na nc names (fun p hp H _ => plain1_c p (hnw p hp) H) hna (by omega) _ (fun w hw => ⟨hw.1.1, trivial⟩)) ?_
              -- fun w hw => hw.2.1: why the kind holds
              ((conv => whnf); (repeat ((first | refine Nd.mk (fun w hw => hw.2.1) ?_ | refine VrN.norm (wrap_i64 (by omega)) ?_ | refine VrN.keep ?_ | refine Nd.mk (by decide +kernel) ?_ | refine Nd.mk (by omega) ?_ | refine RdN.intro _ rfl (by rfl) ?_); (conv => whnf))))
              exact out_bool (by
                have hmx : -Go.Core.maxI ≤ 0 ∧ (0 : Int) ≤ Go.Core.maxI := by decide
                have hl : names.length = items.length := by omega
                have hnd : names.Nodup := hcs.1 (by unfold sortS at hcp; omega)
                have hal : (!names.any fun s => !iiB s) = names.all iiB := by rw [List.all_eq_not_any_not]
                rw [hal]
                unfold Go.Core.plainS
                simp [hl, hnd, hu, hmx, hf])
            · -- fun w hw => hw.2.1: why the kind holds
              ((conv => whnf); (repeat ((first | refine Nd.mk (fun w hw => hw.2.1) ?_ | refine VrN.norm (wrap_i64 (by omega)) ?_ | refine VrN.keep ?_ | refine Nd.mk (by decide +kernel) ?_ | refine Nd.mk (by omega) ?_ | refine RdN.intro _ rfl (by rfl) ?_); (conv => whnf))))
              exact out_bool (by
                have hnd : ¬ names.Nodup := fun h => hcp (by have := hcs.2 h; unfold sortS; omega)
                unfold Go.Core.plainS
                simp [hnd])
          · -- fun w hw => hw.2.1: why the kind holds
            ((conv => whnf); (repeat ((first | refine Nd.mk (fun w hw => hw.2.1) ?_ | refine VrN.norm (wrap_i64 (by omega)) ?_ | refine VrN.keep ?_ | refine Nd.mk (by decide +kernel) ?_ | refine Nd.mk (by omega) ?_ | refine RdN.intro _ rfl (by rfl) ?_); (conv => whnf))))
            exact out_bool (by
              have : ¬ names.length = items.length := by omega
              unfold Go.Core.plainS; simp [this])
    | false =>
      refine .inr ⟨by clear hes; revert p0 p13 p5 p10 p14 p15; decide +kernel, plN p0 p13 p5 p10 p14 p15 true, by simp [plN], ?_⟩
      intro i hi
      have h17 : i < 17 := by
        obtain ⟨_, o, ho, _⟩ := mem_ready.1 hi
        exact (Array.getElem?_eq_some_iff.1 ho).1
      obtain rfl | rfl | rfl | rfl | rfl | rfl | rfl | rfl | rfl | rfl | rfl | rfl | rfl | rfl | rfl | rfl | rfl : i = 0 ∨ i = 1 ∨ i = 2 ∨ i = 3 ∨ i = 4 ∨ i = 5 ∨ i = 6 ∨ i = 7 ∨ i = 8 ∨ i = 9 ∨ i = 10 ∨ i = 11 ∨ i = 12 ∨ i = 13 ∨ i = 14 ∨ i = 15 ∨ i = 16 := by omega
      · obtain ⟨rfl, rfl, rfl, rfl, rfl⟩ : p0 = false ∧ p5 = false ∧ p10 = false ∧ p14 = false ∧ p15 = false := by
          clear hes
          revert p0 p13 p5 p10 p14 p15
          decide +kernel
        (conv => whnf)
        refine EffW.mkMap rfl fun b' => ?_
        (conv => whnf)
        exact ⟨true, p13, false, false, false, false, false, b', 0, #[], by cases p13 <;> rfl, by cases p13 <;> rfl, rfl, rfl, rfl, MapIs.nil.congr fun k => by simp [plWords]⟩
      · exfalso
        clear hes
        revert p0 p13 p5 p10 p14 p15
        decide +kernel
      · exfalso
        clear hes
        revert p0 p13 p5 p10 p14 p15
        decide +kernel
      · exfalso
        clear hes
        revert p0 p13 p5 p10 p14 p15
        decide +kernel
      · exfalso
        clear hes
        revert p0 p13 p5 p10 p14 p15
        decide +kernel
      · obtain ⟨rfl, rfl, rfl⟩ : p0 = true ∧ p5 = false ∧ p15 = false := by
          clear hes
          revert p0 p13 p5 p10 p14 p15
          decide +kernel
        (conv => whnf)
        refine EffW.putMap 2 rfl Tryz.underlying119 Tryz.underlying3 rfl rfl rfl rfl (hes.none (by simp [plWords])) ?_
        (conv => whnf)
        exact ⟨true, p13, true, p10, p14, false, false, b, cl + 1, _, by clear hes hi; revert p13 p10 p14; decide, by cases p13 <;> cases p10 <;> cases p14 <;> rfl, rfl, rfl, rfl, (hes.put (by simp [plWords]) _ cl).congr fun k => by
          unfold plWords
          by_cases hk : k = 4
          · subst hk; simp
          · simp [hk]⟩
      · exfalso
        clear hes
        revert p0 p13 p5 p10 p14 p15
        decide +kernel
      · exfalso
        clear hes
        revert p0 p13 p5 p10 p14 p15
        decide +kernel
      · exfalso
        clear hes
        revert p0 p13 p5 p10 p14 p15
        decide +kernel
      · exfalso
        clear hes
        revert p0 p13 p5 p10 p14 p15
        decide +kernel
      · obtain ⟨rfl, rfl, rfl⟩ : p0 = true ∧ p10 = false ∧ p15 = false := by
          clear hes
          revert p0 p13 p5 p10 p14 p15
          decide +kernel
        (conv => whnf)
        refine EffW.putMap 2 rfl Tryz.underlying119 Tryz.underlying3 rfl rfl rfl rfl (hes.none (by simp [plWords])) ?_
        (conv => whnf)
        exact ⟨true, p13, p5, true, p14, false, false, b, cl + 1, _, by clear hes hi; revert p13 p5 p14; decide, by cases p13 <;> cases p5 <;> cases p14 <;> rfl, rfl, rfl, rfl, (hes.put (by simp [plWords]) _ cl).congr fun k => by
          unfold plWords
          by_cases hk : k = 5
          · subst hk; simp
          · simp [hk]⟩
      · exfalso
        clear hes
        revert p0 p13 p5 p10 p14 p15
        decide +kernel
      · exfalso
        clear hes
        revert p0 p13 p5 p10 p14 p15
        decide +kernel
      · obtain ⟨rfl, rfl, rfl⟩ : p13 = false ∧ p14 = false ∧ p15 = false := by
          clear hes
          revert p0 p13 p5 p10 p14 p15
          decide +kernel
        (conv => whnf)
        refine call1 (IsConst_c text htl _) ?_
        (conv => whnf)
        exact ⟨p0, true, p5, p10, false, false, false, b, cl, es, by clear hes hi; revert p0 p5 p10; decide, by cases p0 <;> cases p5 <;> cases p10 <;> rfl, rfl, rfl, rfl, hes⟩
      · obtain ⟨rfl, rfl, rfl, rfl⟩ : p0 = true ∧ p14 = false ∧ p15 = false ∧ p13 = true := by
          clear hes
          revert p0 p13 p5 p10 p14 p15
          decide +kernel
        (conv => whnf)
        refine EffW.putMap 2 rfl Tryz.underlying119 Tryz.underlying3 rfl rfl rfl rfl (hes.none (by simp [plWords])) ?_
        (conv => whnf)
        exact ⟨true, true, p5, p10, true, false, false, b, cl + 1, _, by clear hes hi; revert p5 p10; decide, by cases p5 <;> cases p10 <;> rfl, rfl, rfl, rfl, (hes.put (by simp [plWords]) _ cl).congr fun k => by
          unfold plWords
          by_cases hk : k = 8
          · subst hk; simp
          · simp [hk]⟩
      · obtain ⟨rfl, rfl, rfl, rfl, rfl, rfl⟩ : p0 = true ∧ p13 = true ∧ p5 = true ∧ p10 = true ∧ p14 = true ∧ p15 = false := by
          clear hes
          revert p0 p13 p5 p10 p14 p15
          decide +kernel
        (conv => whnf)
        exact ⟨true, true, true, true, true, true, false, b, cl, es, rfl, rfl, rfl, rfl, rfl, hes⟩
      · obtain ⟨rfl, rfl, rfl, rfl, rfl, rfl⟩ : p0 = true ∧ p13 = true ∧ p5 = true ∧ p10 = true ∧ p14 = true ∧ p15 = true := by
          clear hes
          revert p0 p13 p5 p10 p14 p15
          decide +kernel
        (conv => whnf)
        exact ⟨true, true, true, true, true, true, true, b, cl, es, rfl, rfl, rfl, rfl, rfl, hes⟩
  · (first | refine wX ?_ | exact wZ)
    refine ReadC.one (T := 9) (x := .tmp 8) (a := some ⟨cb, 0, none⟩) (q := 2) (k := 5) (xs := [.int .i64 kind, .int .i64 num, .string (bs text), .slice na names.length nc, .slice ia items.length ic]) (.string (bs text)) ?_ ?_ ?_ ?_ ?_ ?_
    · rfl
    · rfl
    · rfl
    · exact fun w hw => hw
    · rfl
    (first | refine wX ?_ | exact wZ)
    refine BlindW.lenS (x := .tmp 9) (T := 9) (b := bs text) rfl rfl rfl Tryz.underlying9 ?_ ?_
    · rfl
    rw [bs_size]
    (first | refine wX ?_ | exact wZ)
    refine ReadC.one (T := 9) (x := .tmp 12) (a := some ⟨cb, 0, none⟩) (q := 2) (k := 5) (xs := [.int .i64 kind, .int .i64 num, .string (bs text), .slice na names.length nc, .slice ia items.length ic]) (.string (bs text)) ?_ ?_ ?_ ?_ ?_ ?_
    · rfl
    · rfl
    · rfl
    · exact fun w hw => hw
    · rfl
    (first | refine wX ?_ | exact wZ)
    refine BlindW.lenS (x := .tmp 13) (T := 9) (b := bs text) rfl rfl rfl Tryz.underlying9 ?_ ?_
    · rfl
    rw [bs_size]
    (first | refine wX ?_ | exact wZ)
    refine ReadC.one (T := 9) (x := .tmp 16) (a := some ⟨cb, 0, none⟩) (q := 2) (k := 5) (xs := [.int .i64 kind, .int .i64 num, .string (bs text), .slice na names.length nc, .slice ia items.length ic]) (.string (bs text)) ?_ ?_ ?_ ?_ ?_ ?_
    · rfl
    · rfl
    · rfl
    · exact fun w hw => hw
    · rfl
    (first | refine wX ?_ | exact wZ)
    exact ⟨false, false, false, false, false, false, false, 0, 0, #[], rfl, rfl, rfl, rfl, rfl, MapIs.nil.congr fun k => by simp [plWords]⟩
end Go.Proofs.YtahjbnfbilkbcaaGreatDoor
