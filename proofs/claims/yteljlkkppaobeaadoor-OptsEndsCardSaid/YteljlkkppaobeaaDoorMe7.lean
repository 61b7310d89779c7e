/-
  OptsEndsCardSaid is proved: of everything that may be asked OptsEnds returns true and leaves its argument as it was; the listed tables are tied to the program's text.
-/
import Derived.Test.YteljlkkppaobeaaDoorCards
import Derived.Test.YteljlkkppaobeaaDoorTie
import Derived.Test.YteljlkkppaobeaaDoorMe6
/-
  AX, forty-sixth text: regions that draw their order, by a plan whose readings may stand anywhere between what is written; what is read is told by facts.
-/
namespace Go.AX

/-- A step of a plan without a head: mode 1 is a blind operation, or a load that is the same in all worlds of the kind. -/
def stepR (P : Program) (C : World → Prop) (o : Oper) (s : List AV) (H : List Ent) (how : Nat) (Kv : AV → List Ent → Prop) (Kp : List PanicEntry → List Ent → Prop) : Prop :=
  match how with
  | 0 => stepK P o s H fun out H' => match out with
    | .val av => Nd (∀ w, Facts H' w → C w) (Kv av H')
    | .vals _ => False
    | .pan c => Kp c H'
  | 1 => match o.op with
    | .load _ _ => ∃ x, ReadC P C o s (fun av => Kv av H) x
    | _ => blindK P o s fun av => Kv av H
  | _ + 2 => match mkD P o with
    | some D => snocK H D.ent 0 fun H' n => Nd (∀ w, Facts H' w → C w) (Kv (D.av n) H')
    | none => False
def execR (P : Program) (C : World → Prop) (ops : Array Oper) (l : List (Nat × Nat)) : List AV → List Ent → (Ex → List AV → List Ent → Prop) → Prop :=
  List.rec (motive := fun _ => List AV → List Ent → (Ex → List AV → List Ent → Prop) → Prop)
    (fun s H K => K .normal s H)
    (fun kb _ ih s H K => pickK ops kb.1 fun o => wantK ops o s (fun s => stepR P C o s H kb.2 (fun av H' => putK s o.dst av fun s' => ih s' H' K) (fun c H' => K (.pan c) s H'))
      (fun s => putK s o.dst (.c (.v undef)) fun s' => ih s' H K)) l
def planRB (P : Program) (md : Region.Mode) (ops : Array Oper) (pre : List Nat) (tl : List (Nat × Nat)) : Bool :=
  (((((((((Region.noSelect ops && decide (pre.length + tl.length = ops.size)) && ((List.range ops.size).all fun i => pre.contains i || (tl.map Prod.fst).contains i)) && disj pre (tl.map Prod.fst)) && disj (wraps tl) (floats tl)) && decide (floats tl).Nodup) &&
    (floats tl).all (floatB P md ops)) && (floats tl).all (Region.free md ops (setAll (Array.replicate ops.size false) pre))) && preB md ops pre (Array.replicate ops.size false)) &&
    tlB md ops tl (floats tl) (setAll (Array.replicate ops.size false) pre))

section
variable {P : Program} {ops : Array Oper} {C : World → Prop}
theorem anyC_read {Q : Exit → Act → World → Prop} {i : Nat} {oi : Oper} {v : Value} (hi : ops[i]? = some oi) (hsel : ∀ (j : Nat) (o : Oper) cs b, ops[j]? = some o → o.op ≠ .select cs b)
    (hQ : ∀ c a w, Q (.panic c) (a.put oi.dst v) w → Q (.panic c) a w) :
    ∀ (f : Nat) (ls : Array Bool) (a : Act) (w : World),
      (∀ j oj, ops[j]? = some oj → j ≠ i → ls.getD j true = false → (∀ e ∈ oj.after, Region.binds .any e = true → e.on ≠ i) → oi.apart ops oj = true) →
      i ∈ Region.ready .any ops ls → YR P ops C oi v a → AnyC P ops Q C [] f (ls.setIfInBounds i true) (a.put oi.dst v) w → AnyC P ops Q C [] (f + 1) ls a w := by
  have nl : ∀ ls : Array Bool, ∀ t ∈ ([] : List Nat), ls.getD t false = false := fun _ t h => by cases h
  have own : ∀ (f : Nat) (ls : Array Bool) (a : Act) (w : World), YR P ops C oi v a → AnyC P ops Q C [] f (ls.setIfInBounds i true) (a.put oi.dst v) w → wpOp P ops Q i (AnyC P ops Q C [] f (ls.setIfInBounds i true)) a w := fun f ls a w hy hH => by
    unfold wpOp
    simp only [hi]
    rcases hy with ⟨hw, hv⟩ | ⟨hw, rfl⟩
    · rw [if_pos hw]
      refine .inl ?_
      unfold Oper.wp
      rw [hv w (hH.cls (nl _))]
      exact hH
    · rw [if_neg (by simp [hw])]; exact hH
  intro f
  induction f with
  | zero =>
    intro ls a w _ hr hy hL
    refine ⟨fun _ => hL.cls (nl _), fun h0 => (by rw [h0] at hr; cases hr), fun j hj => ?_⟩
    by_cases hji : j = i
    · subst hji; exact own 0 ls a w hy hL
    · have := ready_mono hj hji; rw [hL.2.1] at this; cases this
  | succ f ih =>
    intro ls a w hfree hr hy hH
    have hun := (mem_ready.1 hr).1
    refine ⟨fun _ => hH.cls (nl _), fun h0 => (by rw [h0] at hr; cases hr), fun j hj => ?_⟩
    by_cases hji : j = i
    · subst hji; exact own (f + 1) ls a w hy hH
    · obtain ⟨hjun, oj, hoj, hall⟩ := mem_ready.1 hj
      have hno : ∀ e ∈ oj.after, Region.binds .any e = true → e.on ≠ i := fun e he hb he2 => by
        have := hall e he hb
        rw [he2, getD_both hun] at this
        cases this
      have h1 := wpOp_swap hoj (hfree j oj hoj hji hjun hno) (fun cs b => hsel i oi cs b hi) (fun cs b => hsel j oj cs b hoj) hQ hy (hH.2.2 j (ready_mono hj hji))
      refine wpOp_mono (fun a' w' h3 => ih (ls.setIfInBounds j true) a' w' (fun k ok hk hki hun' hno' => ?_) (ready_mono hr (Ne.symm hji)) h3.1 ?_) h1
      · refine hfree k ok hk hki ?_ hno'
        by_cases hjk : j = k
        · subst hjk; exact hjun
        · rw [getD_set_ne true hjk] at hun'; exact hun'
      · rw [Array.setIfInBounds_comm _ _ hji]; exact h3.2
variable {K : Ex → List AV → List Ent → Prop} {ρ0 : List Loc} {S0 : Nat → Prop} {H0 : List Ent} {w0 : World} {dfs : List Deferred}
theorem tail_read {pre hd hq : List Nat} {tl : List (Nat × Nat)} (cx : Ctx P ops pre hd hq tl) : ∀ (l : List (Nat × Nat)) (s : List AV) (H : List Ent), (∀ w, Facts H w → C w) → execR P C ops l s H K → ∀ (rem : List Nat) (lc : Array Bool), tlB .any ops l rem lc = true →
    ∀ (n : Nat) (E : List Fl), n + E.length = rem.length → ∀ (ls : Array Bool) (ρ : List Loc) (S : Nat → Prop) (w : World) (a : Act), Mid P ops pre tl rem w0 lc E ls ρ S H w → Ev ρ0 S0 H0 w0 ρ S H w → a.defers = dfs → Sat ρ S H w → RelS ρ s a.tmps.toList →
      AnyC P ops (Post ρ0 S0 H0 w0 dfs K) C [] (l.length - E.length) ls (pt a E) w
  | [], s, H, hC, h, rem, lc, hB, n, E, hn, ls, ρ, S, w, a, m, hev, hdf, hs, hr => by
    simp only [tlB, Bool.and_eq_true, List.isEmpty_iff] at hB
    have hE : E = [] := by rw [hB.1] at hn; simp at hn; exact hn.2
    subst hE
    refine ⟨fun _ => hC w hs.facts, ?_, ρ, S, s, H, .normal, hs, hev, hr, hdf, trivial, h⟩
    rw [List.eq_nil_iff_forall_not_mem]
    intro j hj
    rcases (m.lst.ready (rem := rem) m.sub hj).1 with h1 | h1
    · rw [hB.1] at h1; rw [show setAll lc [] = lc from rfl, hB.2] at h1; cases h1
    · rw [hB.1] at h1; cases h1
  | (k, q) :: l, s, H, hC, h0, rem, lc, hB, n, E, hn, ls, ρ, S, w, a, m, hev, hdf, hs, hr => by
    have hp : pickK ops k fun o => wantK ops o s (fun s => stepR P C o s H q (fun av H' => putK s o.dst av fun s' => execR P C ops l s' H' K) (fun c H' => K (.pan c) s H')) (fun s => putK s o.dst (.c (.v undef)) fun s' => execR P C ops l s' H K) := h0
    obtain ⟨o, ho, hq⟩ := pickK_spec hp
    clear hp
    have hkl : k < ops.size := (Array.getElem?_eq_some_iff.1 ho).1
    have hrl := rem_le _ _ _ hB m.ndr
    have hEl := m.len
    have hsel := Region.noSelect_spec cx.sel k o
    match q with
    | 0 =>
      simp only [tlB, Bool.and_eq_true, decide_eq_true_eq, Bool.not_eq_true', List.contains_iff_mem] at hB
      obtain ⟨⟨⟨hk1, hk2⟩, hk3⟩, hB⟩ := hB
      have hk1 : k ∈ Region.ready .any ops lc := by simpa using hk1
      have hk3 : k ∉ rem := by intro hm; rw [← List.contains_iff_mem] at hm; rw [hm] at hk3; cases hk3
      have hrl2 := rem_le _ _ _ hB m.ndr
      have hkE : k ∉ E.map Fl.i := fun hm => by obtain ⟨e, he, hi⟩ := List.mem_map.1 hm; exact hk3 (hi ▸ m.sub e he)
      rw [show ((k, 0) :: l).length - E.length = (l.length - E.length) + 1 by simp; omega]
      have hoff := off_of cx ho hk1 m.pre (fun e he => ⟨(m.rf _ (m.sub e he)).1, (m.rf _ (m.sub e he)).2, fun h => hk3 (h ▸ m.sub e he)⟩) m.hid
      refine ⟨fun _ => hC w hs.facts, fun h1 => absurd (m.lst.own hk1 hkE) (by rw [h1]; simp), fun i hi => ?_⟩
      have hrd := m.lst.ready m.sub hi
      by_cases hik : i = k
      · subst hik
        refine op_pt ho (fun cs b => hsel cs b ho) hoff (fun c a d v w h => post_put c a d v w h) ?_
        unfold wpOp
        simp only [ho]
        rcases wantK_spec hq hr with ⟨hw, s', h', hr'⟩ | ⟨hw, s', h', hr'⟩
        · rw [if_pos hw]
          refine .inl (step_sound (K := fun out H' => match out with
            | .val av => Nd (∀ w, Facts H' w → C w) (putK s' o.dst av fun s2 => execR P C ops l s2 H' K)
            | .vals _ => False
            | .pan c => K (.pan c) s' H') h' hs hr' (fun ρ1 S1 H1 w1 av v hs1 hev1 hrel hK => ?_) (fun ρ1 S1 H1 w1 c hs1 hev1 hK => ?_) fun _ _ h => h)
          · obtain ⟨hC1, hK⟩ := hK
            obtain ⟨s2, hK2, hput⟩ := putK_spec hK
            have hrs : RelS ρ1 s' a.tmps.toList := by obtain ⟨t, ht⟩ := hev1.pre; rw [ht]; exact RelS_pre t hr'
            exact tail_read cx l s2 H1 hC1 hK2 rem _ hB n E hn _ ρ1 S1 w1 _ (m.step hkl hk3 hev1) (hev.trans hev1) (by rw [put_defers]; exact hdf) hs1 (hput ρ1 a v hrs hrel)
          · exact ⟨ρ1, S1, s', H1, .pan c, hs1, hev.trans hev1, trivial, hdf, rfl, hK⟩
        · rw [if_neg (by simp [hw])]
          obtain ⟨s2, hK2, hput⟩ := putK_spec h'
          exact tail_read cx l s2 H hC hK2 rem _ hB n E hn _ ρ S w _ (m.step hkl hk3 (Ev.refl _ _ _ _)) hev (by rw [put_defers]; exact hdf) hs (hput ρ a undef hr' rfl)
      · have hir : i ∈ rem := by
          rcases hrd.1 with h1 | h1
          · rw [hk2] at h1; simp at h1; exact absurd h1 hik
          · exact h1
        have hEl2 : E.length + 1 ≤ rem.length := by
          have := nodup_len (b := rem) (a := i :: E.map Fl.i) (List.nodup_cons.2 ⟨hrd.2.1, m.ndi⟩) fun x hx => by
            cases hx with
            | head => exact hir
            | tail _ hx => obtain ⟨e, he, rfl⟩ := List.mem_map.1 hx; exact m.sub e he
          simpa using this
        refine m.others cx hs hev hir hrd.2.1 fun e w1 he hs1 hev1 hm1 => ?_
        have := tail_read cx ((k, 0) :: l) s H hC h0 rem lc (by simp only [tlB, Bool.and_eq_true, decide_eq_true_eq]; exact ⟨⟨⟨by simpa using hk1, hk2⟩, by simpa using hk3⟩, hB⟩) (n - 1) (e :: E) (by simp; omega) _ ρ S w1 a hm1 (hev.trans hev1) hdf hs1 hr
        rw [show ((k, 0) :: l).length - (e :: E).length = l.length - E.length by simp] at this
        exact this
    | 1 =>
      simp only [tlB, Bool.and_eq_true, Bool.not_eq_true', List.contains_iff_mem] at hB
      obtain ⟨⟨⟨hk1, hfr⟩, hk3⟩, hB⟩ := hB
      have hk1 : k ∈ Region.ready .any ops lc := by simpa using hk1
      have hk3 : k ∉ rem := by intro hm; rw [← List.contains_iff_mem] at hm; rw [hm] at hk3; cases hk3
      have hrl2 := rem_le _ _ _ hB m.ndr
      have hkE : k ∉ E.map Fl.i := fun hm => by obtain ⟨e, he, hi⟩ := List.mem_map.1 hm; exact hk3 (hi ▸ m.sub e he)
      rw [show ((k, 1) :: l).length - E.length = (l.length - E.length) + 1 by simp; omega]
      have hoff := off_of cx ho hk1 m.pre (fun e he => ⟨(m.rf _ (m.sub e he)).1, (m.rf _ (m.sub e he)).2, fun h => hk3 (h ▸ m.sub e he)⟩) m.hid
      have hd' : ∀ e ∈ E, o.dst ≠ some e.d := fun e he => (hoff e he).2
      have fin : ∀ (v : Value) (s2 : List AV), Yields P ops o v a → execR P C ops l s2 H K → RelS ρ s2 (a.put o.dst v).tmps.toList → AnyC P ops (Post ρ0 S0 H0 w0 dfs K) C [] (l.length - E.length + 1) ls (pt a E) w := fun v s2 hy hK hr2 => by
        have he := exec_pt (ops := ops) (fun cs b => hsel cs b ho) a E hoff
        refine anyC_blind ho (Region.noSelect_spec cx.sel) (fun c a w h => h.put) (by simp) _ ls _ w (fun j oj hj hne hun hno => Region.free_spec ho hfr j oj hj hne (m.lst.un hun) hno) (m.lst.own hk1 hkE) (hy.of_same he.1 he.2) ?_
        rw [put_pt _ _ _ _ hd']
        exact tail_read cx l s2 H hC hK rem _ hB n E hn _ ρ S w _ (m.step hkl hk3 (Ev.refl _ _ _ _)) hev (by rw [put_defers]; exact hdf) hs hr2
      have finR : ∀ (v : Value) (s2 : List AV), YR P ops C o v a → execR P C ops l s2 H K → RelS ρ s2 (a.put o.dst v).tmps.toList → AnyC P ops (Post ρ0 S0 H0 w0 dfs K) C [] (l.length - E.length + 1) ls (pt a E) w := fun v s2 hy hK hr2 => by
        have he := exec_pt (ops := ops) (fun cs b => hsel cs b ho) a E hoff
        refine anyC_read ho (Region.noSelect_spec cx.sel) (fun c a w h => h.put) _ ls _ w (fun j oj hj hne hun hno => Region.free_spec ho hfr j oj hj hne (m.lst.un hun) hno) (m.lst.own hk1 hkE) (hy.same he.1 he.2) ?_
        rw [put_pt _ _ _ _ hd']
        exact tail_read cx l s2 H hC hK rem _ hB n E hn _ ρ S w _ (m.step hkl hk3 (Ev.refl _ _ _ _)) hev (by rw [put_defers]; exact hdf) hs hr2
      rcases wantK_spec hq hr with ⟨hw, s', h', hr'⟩ | ⟨hw, s', h', hr'⟩
      · by_cases hld : ∃ T x, o.op = .load T x
        · obtain ⟨T, y, hop⟩ := hld
          have h2 : ∃ x, ReadC P C o s' (fun av => putK s' o.dst av fun s2 => execR P C ops l s2 H K) x := by
            have h3 := h'
            unfold stepR at h3
            simp only [hop] at h3
            exact h3
          obtain ⟨x, rc⟩ := h2
          obtain ⟨s2, hK2, hput⟩ := putK_spec rc.next
          refine finR x s2 (.inl ⟨hw, fun w' hw' => ?_⟩) hK2 (hput ρ a x hr' rfl)
          rw [execOp_congr o rc.sel (ρ' := plainEv s') fun y hy => allPlain_eval hr' _ rc.plain y (Array.mem_toList_iff.2 hy)]
          exact rc.run w' hw'
        · have h2 : blindK P o s' fun av => putK s' o.dst av fun s2 => execR P C ops l s2 H K := by
            have h3 := h'
            unfold stepR at h3
            simp only at h3
            split at h3
            · rename_i T x hop
              exact absurd ⟨T, x, hop⟩ hld
            · exact h3
          obtain ⟨av, v, hK, hrel, hrun⟩ := blind_sound (K := fun av => putK s' o.dst av fun s2 => execR P C ops l s2 H K) h2 hr'
          obtain ⟨s2, hK2, hput⟩ := putK_spec hK
          exact fin v s2 (.inl ⟨hw, hrun⟩) hK2 (hput ρ a v hr' hrel)
      · obtain ⟨s2, hK2, hput⟩ := putK_spec h'
        exact fin undef s2 (.inr ⟨hw, rfl⟩) hK2 (hput ρ a undef hr' rfl)
    | q + 2 =>
      have hB0 := hB
      simp only [tlB, Bool.and_eq_true, decide_eq_true_eq, List.contains_iff_mem] at hB
      obtain ⟨⟨hk1, hk2⟩, hB⟩ := hB
      have hk1 : k ∈ rem := by simpa using hk1
      have hrl2 := rem_le _ _ _ hB (m.ndr.erase k)
      have hle := List.length_erase_of_mem hk1
      have hpos : 0 < rem.length := List.length_pos_of_mem hk1
      obtain ⟨o', d, D, ho', hmk, hg, hdst, haft⟩ := floatB_spec (cx.op k (m.rf k hk1).1)
      have hok := mkD_ok hmk
      obtain rfl : o' = o := Option.some.inj (ho'.symm.trans ho)
      -- the plan's own state behind its turn
      have hst : ∃ s2, (∀ w, Facts (H ++ [D.ent]) w → C w) ∧ execR P C ops l s2 (H ++ [D.ent]) K ∧ ∀ (ρ : List Loc) (a : Act) (v : Value), RelS ρ s a.tmps.toList → (D.av H.length).rel ρ v → RelS ρ s2 (a.put o'.dst v).tmps.toList := by
        have h2 := hq
        unfold wantK at h2
        rw [hg] at h2
        unfold stepR at h2
        simp only [hmk] at h2
        rw [snocK_eq, Nat.zero_add] at h2
        obtain ⟨s2, hK2, hput⟩ := putK_spec h2.next
        exact ⟨s2, h2.ok, hK2, hput⟩
      obtain ⟨s2, hC2, hK2, hput⟩ := hst
      have mid2 : ∀ (E' : List Fl) (ls' : Array Bool) (ρ1 : List Loc) (S1 : Nat → Prop) (H1 : List Ent) (w1 : World), Lst ops (lc.setIfInBounds k true) E' ls' → (∀ e ∈ E', e ∈ E) → (E'.map Fl.i).Nodup → (E'.map Fl.d).Nodup → (E'.map Fl.b).Nodup → (∀ e ∈ E', e.i ≠ k) → (∀ e ∈ E', Hid P ops ρ1 S1 H1 w1 w0.heap.size e) →
          Mid P ops pre tl (rem.erase k) w0 (lc.setIfInBounds k true) E' ls' ρ1 S1 H1 w1 := fun E' ls' ρ1 S1 H1 w1 hl hsub h1 h2 h3b hne hh =>
        ⟨hl, fun j hj => getD_set_true (m.pre j hj), fun e he => (List.mem_erase_of_ne (hne e he)).2 (m.sub e (hsub e he)), h1, h2, h3b, fun i hi => by
          have h3 : i ∈ rem := List.mem_of_mem_erase hi
          have hne' : k ≠ i := fun h => by subst h; exact (List.Nodup.not_mem_erase m.ndr) hi
          exact ⟨(m.rf i h3).1, by rw [getD_set_ne false hne']; exact (m.rf i h3).2⟩, m.ndr.erase k, hh⟩
      by_cases hkE : k ∈ E.map Fl.i
      · obtain ⟨e, he, hei⟩ := List.mem_map.1 hkE
        obtain ⟨E', hE'⟩ : ∃ E', E.Perm (e :: E') := by
          obtain ⟨l1, l2, rfl⟩ := List.append_of_mem he
          exact ⟨l1 ++ l2, List.perm_middle⟩
        have hh := m.hid e he
        obtain ⟨oe, De, hoe, hmke, _, hde, hptr, hheap⟩ := hh.op
        rw [hei, ho] at hoe
        obtain rfl := Option.some.inj hoe
        rw [hmk] at hmke; cases hmke
        have hkn := known hs hev hh hok hheap
        have hEmem : ∀ e' ∈ E', e' ∈ E := fun e' he' => hE'.mem_iff.2 (by simp [he'])
        have hndi := (hE'.map Fl.i).nodup_iff.1 m.ndi
        have hndd := (hE'.map Fl.d).nodup_iff.1 m.ndd
        have hndb := (hE'.map Fl.b).nodup_iff.1 m.ndb
        have hbne : ∀ e' ∈ E', ¬ mb (ρ ++ [⟨e.b, D.cap⟩]) (H ++ [D.ent]) e'.b := fun e' he' ⟨j, f, hf, hfb⟩ => by
          by_cases hj : j < H.length
          · rw [List.getElem?_append_left hj] at hf
            rw [entB_pre _ (by rw [hs.len]; exact hj)] at hfb
            exact (m.hid e' (hEmem e' he')).m ⟨j, f, hf, hfb⟩
          · have hj2 : j = H.length := by
              have := (List.getElem?_eq_some_iff.1 hf).1
              simp at this; omega
            subst hj2
            simp at hf
            subst hf
            rw [hok.entb, ← hs.len] at hfb
            simp at hfb
            exact (List.nodup_cons.1 hndb).1 (List.mem_map.2 ⟨e', he', hfb.symm⟩)
        have hlen : E.length = E'.length + 1 := by rw [hE'.length_eq]; rfl
        rw [show ((k, q + 2) :: l).length - E.length = l.length - E'.length by simp; omega]
        rw [pt_perm a hE' m.ndd, pt, put_pt _ _ _ _ (fun e' he' heq => (List.nodup_cons.1 hndd).1 (List.mem_map.2 ⟨e', he', (Option.some.inj heq).symm⟩))]
        have := tail_read cx l s2 _ hC2 hK2 (rem.erase k) _ hB n E' (by omega) ls _ S w (a.put (some e.d) e.ptr) (mid2 E' ls _ S _ w (by rw [← hei]; exact m.lst.take hE' (by rw [hei]; exact hkl)) hEmem (List.nodup_cons.1 hndi).2 (List.nodup_cons.1 hndd).2 (List.nodup_cons.1 hndb).2 (fun e' he' h => (List.nodup_cons.1 hndi).1 (by rw [hei, ← h]; exact List.mem_map.2 ⟨e', he', rfl⟩)) fun e' he' => by
            have h1 := m.hid e' (hEmem e' he')
            exact ⟨h1.op, h1.s, hbne e' he', h1.lo⟩) hkn.2 (by rw [put_defers]; exact hdf) hkn.1 (by
            have h1 := hput (ρ ++ [⟨e.b, D.cap⟩]) a e.ptr (RelS_pre _ hr) (by rw [hptr]; exact hok.rel _ _ e.b (by rw [← hs.len]; simp))
            rw [hde] at h1
            exact h1)
        exact this
      · have hEk : ∀ e ∈ E, e.i ∈ rem.erase k := fun e he => (List.mem_erase_of_ne (fun h => hkE (List.mem_map.2 ⟨e, he, h⟩))).2 (m.sub e he)
        have hEl3 : E.length + 1 ≤ rem.length := by
          have := nodup_len (b := rem.erase k) m.ndi fun x hx => by obtain ⟨e, he, rfl⟩ := List.mem_map.1 hx; exact hEk e he
          simp at this; omega
        rw [show ((k, q + 2) :: l).length - E.length = (l.length - E.length) + 1 by simp; omega]
        have hkc : k ∈ Region.ready .any ops lc := mem_ready.2 ⟨getD_in (by rw [m.lst.s2]; exact hkl) (m.rf k hk1).2, o', ho, fun e he hb => by rw [haft e he] at hb; cases hb⟩
        refine ⟨fun _ => hC w hs.facts, fun h1 => absurd (m.lst.own hkc hkE) (by rw [h1]; simp), fun i hi => ?_⟩
        have hrd := m.lst.ready hEk hi
        have hir : i ∈ rem := by
          rcases hrd.1 with h1 | h1
          · rw [hk2] at h1; simp at h1; rw [h1]; exact hk1
          · exact List.mem_of_mem_erase h1
        refine m.others cx hs hev hir hrd.2.1 fun e w1 he hs1 hev1 hm1 => ?_
        have := tail_read cx ((k, q + 2) :: l) s H hC h0 rem lc hB0 (n - 1) (e :: E) (by simp; omega) _ ρ S w1 a hm1 (hev.trans hev1) hdf hs1 hr
        rw [show ((k, q + 2) :: l).length - (e :: E).length = l.length - E.length by simp] at this
        exact this
termination_by l _ _ _ _ _ _ _ n => (l.length, n)
decreasing_by all_goals (simp_wf; first | omega | (right; omega) | (left; omega))
end
theorem planR_sound {P : Program} {C : World → Prop} {ops : Array Oper} (hm : P.follows .mixedOrders = true) {id : Nat} {s : List AV} {H : List Ent} {K : Ex → List AV → List Ent → Prop} {pre : List Nat} {tl : List (Nat × Nat)} (hB : planRB P .any ops pre tl = true) (hC : ∀ w, Facts H w → C w)
    (next : execB P ops pre s fun s1 => execR P C ops tl s1 H K) {ρ : List Loc} {S : Nat → Prop} {w : World} {a : Act} (hs : Sat ρ S H w) (hr : RelS ρ s a.tmps.toList) :
    (Code.region id ops true).wp P (Post ρ S H w a.defers K) a w := by
  simp only [planRB, Bool.and_eq_true, decide_eq_true_eq] at hB
  obtain ⟨⟨⟨⟨⟨⟨⟨⟨⟨hsel, hlen⟩, hcov⟩, hpt⟩, hwf⟩, hnd⟩, hfl⟩, hfree⟩, hpre⟩, htl⟩ := hB
  have hcov' : ∀ j, j < ops.size → j ∈ pre ∨ j ∈ ([] : List Nat) ∨ j ∈ floats tl ∨ j ∈ wraps tl := fun j hj => by
    have := List.all_eq_true.1 hcov j (List.mem_range.2 hj)
    simp only [Bool.or_eq_true, List.contains_iff_mem] at this
    rcases this with h | h
    · exact .inl h
    · exact .inr (.inr ((tl_split tl j).1 h))
  have hpt' := disj_spec hpt
  have inW : ∀ {j}, j ∈ wraps tl → j ∈ tl.map Prod.fst := fun h => (tl_split tl _).2 (.inr h)
  have inF : ∀ {j}, j ∈ floats tl → j ∈ tl.map Prod.fst := fun h => (tl_split tl _).2 (.inl h)
  have inv0 : PInv .any ops [] (wraps tl) (Array.replicate ops.size false) :=
    ⟨by simp, fun j oj _ hl => (by rw [getD_replicate_false] at hl; cases hl), fun t _ => getD_replicate_false _ _, fun k hk => by cases hk⟩
  have hin : ∀ (l : List Nat) (ls : Array Bool), preB .any ops l ls = true → ∀ k ∈ l, k < ops.size := by
    intro l
    induction l with
    | nil => intro ls _ k hk; cases hk
    | cons x l ih =>
      intro ls h k hk
      simp only [preB, Bool.and_eq_true] at h
      cases hk with
      | head =>
        have hr : x ∈ Region.ready .any ops ls := by simpa using h.1.1
        obtain ⟨_, o, ho, _⟩ := mem_ready.1 hr
        exact (Array.getElem?_eq_some_iff.1 ho).1
      | tail _ hk => exact ih _ h.2 k hk
  have inv1 := preB_inv (pre0 := pre) pre [] _ inv0 hpre (fun k hk h => hpt' k hk (inW h)) (hin _ _ hpre)
  rw [List.nil_append] at inv1
  have hs1 : (setAll (Array.replicate ops.size false) pre).size = ops.size := by rw [setAll_size]; simp
  have un1 : ∀ j, j < ops.size → j ∉ pre → (setAll (Array.replicate ops.size false) pre).getD j false = false := fun j hj hn => by
    rw [setAll_get _ _ _ (by simpa using hj), getD_replicate_false]
    simpa using hn
  have cx : Ctx P ops pre [] [] tl := by
    refine ⟨hsel, hcov', (fun j hj h => by cases hj), fun j hj h => disj_spec hwf j h hj, (fun j hj h => by cases hj), fun j hj h => hpt' j hj (inF h), fun i hi => List.all_eq_true.1 hfl i hi, fun i hi oi hoi k ok hk hne hnp hno => ?_, .inl rfl⟩
    have hkl : k < ops.size := (Array.getElem?_eq_some_iff.1 hk).1
    exact Region.free_spec hoi (List.all_eq_true.1 hfree i hi) k ok hk hne (getD_in (by rw [hs1]; exact hkl) (un1 k hkl hnp)) hno
  refine wp_region_any hm ?_
  have hsz : ops.size = pre.length + tl.length := by omega
  rw [hsz]
  have e0 : Array.replicate (pre.length + tl.length) false = Array.replicate ops.size false := by rw [hsz]
  rw [e0]
  refine execB_sound hsel (fun c a d v w h => h.put) (dfs := a.defers) (ρ := ρ) (fun s1 a1 h1 hr1 hd1 => ?_) pre s _ a next hpre rfl hr rfl
  have hfl0 : ∀ i ∈ floats tl, i < ops.size := fun i hi => by
    obtain ⟨o, _, _, ho, _⟩ := floatB_spec (List.all_eq_true.1 hfl i hi)
    exact (Array.getElem?_eq_some_iff.1 ho).1
  have hmid : Mid P ops pre tl (floats tl) w (setAll (Array.replicate ops.size false) pre) [] (setAll (Array.replicate ops.size false) pre) ρ S H { w with drawn := w.drawn + 1 } :=
    ⟨⟨hs1, hs1, fun j => by simp⟩, inv1.pre, fun e he => absurd he (by simp), List.nodup_nil, List.nodup_nil, List.nodup_nil, fun i hi => ⟨hi, un1 i (hfl0 i hi) fun h => hpt' i h (inF hi)⟩, hnd, fun e he => absurd he (by simp)⟩
  exact AnyC.any _ _ _ _ (tail_read cx tl s1 H hC h1 _ _ htl (floats tl).length [] (by simp) _ ρ S _ a1 hmid (Ev.drew ρ S H w) hd1 (hs.heap rfl) hr1)
/-- A region by a plan: first what is blind, then the others; mode 0 is the only one that may come, mode 1 is blind or a load under C, mode 2 is made whenever the order has it. -/
theorem DrawN.planR {P : Program} {ops : Array Oper} {s : List AV} {H : List Ent} {K : Ex → List AV → List Ent → Prop} (hm : P.follows .mixedOrders = true) (C : World → Prop) (pre : List Nat) (tl : List (Nat × Nat)) (ok : planRB P .any ops pre tl = true) (now : ∀ w, Facts H w → C w)
    (next : execB P ops pre s fun s1 => execR P C ops tl s1 H K) : DrawN P ops s H K :=
  .sem fun _ _ _ _ _ hs hr => planR_sound hm ok now next hs hr
end Go.AX

/-
  Contract: OptsEnds (law).
-/
namespace Go.Proofs.YteljlkkppaobeaaDoor
open Go.AX Go.RowKit Go.Opts
set_option maxRecDepth 20000

def askC (sO : Value) (a : Option Addr) (l : List (List UInt8)) (c : Nat) (a2 : Option Addr) (o : List Int) (c2 : Nat) (a3 : Option Addr) (k : List Int) (c3 : Nat) (st : Bool) (s1 s2 : ByteArray) : List Value :=
  [sO, .slice a l.length c, .slice a2 o.length c2, .slice a3 k.length c3, .bool st, .string s1, .string s2]
def askV (sO : Value) (a : Option Addr) (l : List (List UInt8)) (c : Nat) (a2 : Option Addr) (o : List Int) (c2 : Nat) (a3 : Option Addr) (k : List Int) (c3 : Nat) (st : Bool) (s1 s2 : ByteArray) : Value :=
  .agg #[sO, .slice a l.length c, .slice a2 o.length c2, .slice a3 k.length c3, .bool st, .string s1, .string s2]
def ddB (W : List (List UInt8)) : Bool := W.any (· == [45, 45])
theorem ddB_step {W : List (List UInt8)} {i : Nat} {x : List UInt8} (h : W[i]? = some x) : ddB (W.take (i + 1)) = (ddB (W.take i) || x == [45, 45]) := by
  unfold ddB
  rw [List.take_add_one, h, List.any_append]
  simp
theorem ddB_mem {W : List (List UInt8)} (h : [45, 45] ∈ W) : ddB W = true := List.any_eq_true.2 ⟨_, h, by decide⟩
theorem dd_eq (x : List UInt8) : ((bs x).data.toList == [45, 45]) = (x == [45, 45]) := by rw [bs_list]
set_option maxHeartbeats 4000000 in
theorem OptsEnds_c (sa : Option Addr) (sn sc : Nat) (a : Option Addr) (l : List (List UInt8)) (c : Nat) (a2 : Option Addr) (o : List Int) (c2 : Nat) (a3 : Option Addr) (k : List Int) (c3 : Nat) (st : Bool) (s1 s2 : ByteArray) (ha : a = none → l = []) (hl : l.length ≤ 200000000000000) (hw1 : ∀ w ∈ l, w.length ≤ 200000000000000) (ha2 : a2 = none → o = []) (hl2 : o.length ≤ 200000000000000) (ha3 : a3 = none → k = []) (hl3 : k.length ≤ 200000000000000) :
    ∀ H, (∀ w, Facts H w → (SlAt a (l.length * 1) (strC l) w ∧ SlAt a2 (o.length * 1) (iC o) w ∧ SlAt a3 (k.length * 1) (iC k) w) ∧ MaxF w) → SpecH Tryd.prog 3 (pvs [askV (.slice sa sn sc) a l c a2 o c2 a3 k c3 st s1 s2]) H (Ret (.bool true) H) := by
  refine factC hm Tryd.func3 (by kernel_rfl) rfl rfl ?_
  ((conv => whnf); (repeat ((first | refine RwN.own ?_ | refine VrN.norm (wrap_i64 (by omega)) ?_ | refine VrN.keep ?_ | refine DrawN.calm (by decide +kernel) ?_ | refine Nd.mk (by decide +kernel) ?_ | refine Nd.mk (by omega) ?_ | (refine Nd.mk ?_ ?_; focus ((repeat' (first | exact trivial | exact wkE_refl _ | refine And.intro ?_ ?_)); done)) | refine RdN.intro _ rfl (by rfl) ?_); (conv => whnf))))
  refine BoxN.known (askC (.slice sa sn sc) a l c a2 o c2 a3 k c3 st s1 s2) rfl fun ub => ?_
  ((conv => whnf); (repeat ((first | refine VrN.norm (wrap_i64 (by omega)) ?_ | refine VrN.keep ?_ | refine DrawN.calm (by decide +kernel) ?_ | refine Nd.mk (by decide +kernel) ?_ | refine Nd.mk (by omega) ?_ | (refine Nd.mk ?_ ?_; focus ((repeat' (first | exact trivial | exact wkE_refl _ | refine And.intro ?_ ?_)); done)) | refine RdN.intro _ rfl (by rfl) ?_); (conv => whnf))))
  -- 1: the field of what is asked, .slice a l.length c: the value
  refine LdN.one (a := some ⟨ub, 0, none⟩) (q := 1) (.slice a l.length c) rfl (fun w hw => hw.2.1) rfl ?_
  ((conv => whnf); (repeat ((first | refine VrN.norm (wrap_i64 (by omega)) ?_ | refine VrN.keep ?_ | refine DrawN.calm (by decide +kernel) ?_ | refine Nd.mk (by decide +kernel) ?_ | refine Nd.mk (by omega) ?_ | (refine Nd.mk ?_ ?_; focus ((repeat' (first | exact trivial | exact wkE_refl _ | refine And.intro ?_ ?_)); done)) | refine RdN.intro _ rfl (by rfl) ?_); (conv => whnf))))
  refine call1 (longw_c a c l ha hl hw1 _ (fun w hw => hw.1.1.1)) ?_
  cases hlb : longB l with
  | true =>
    (first | refine wX ?_ | exact wZ)
    refine call1 (sane_c _ (fun w hw => hw.1.2)) ?_
    (first | refine wX ?_ | exact wZ)
  | false =>
    obtain ⟨hl1, hl2', hl3'⟩ := longB_lt hlb
    ((conv => whnf); (repeat ((first | refine VrN.norm (wrap_i64 (by omega)) ?_ | refine VrN.keep ?_ | refine DrawN.calm (by decide +kernel) ?_ | refine Nd.mk (by decide +kernel) ?_ | refine Nd.mk (by omega) ?_ | (refine Nd.mk ?_ ?_; focus ((repeat' (first | exact trivial | exact wkE_refl _ | refine And.intro ?_ ?_)); done)) | refine RdN.intro _ rfl (by rfl) ?_); (conv => whnf))))
    -- 1: the field of what is asked, .slice a l.length c: the value
    refine LdN.one (a := some ⟨ub, 0, none⟩) (q := 1) (.slice a l.length c) rfl (fun w hw => hw.2.1) rfl ?_
    ((conv => whnf); (repeat ((first | refine VrN.norm (wrap_i64 (by omega)) ?_ | refine VrN.keep ?_ | refine DrawN.calm (by decide +kernel) ?_ | refine Nd.mk (by decide +kernel) ?_ | refine Nd.mk (by omega) ?_ | (refine Nd.mk ?_ ?_; focus ((repeat' (first | exact trivial | exact wkE_refl _ | refine And.intro ?_ ?_)); done)) | refine RdN.intro _ rfl (by rfl) ?_); (conv => whnf))))
    refine brd_dec (fun h1 => ?_) (fun h1 => ?_)
    · (first | refine wX ?_ | exact wZ)
      refine call1 (sane_c _ (fun w hw => hw.1.2)) ?_
      (first | refine wX ?_ | exact wZ)
    ((conv => whnf); (repeat ((first | refine VrN.norm (wrap_i64 (by omega)) ?_ | refine VrN.keep ?_ | refine DrawN.calm (by decide +kernel) ?_ | refine Nd.mk (by decide +kernel) ?_ | refine Nd.mk (by omega) ?_ | (refine Nd.mk ?_ ?_; focus ((repeat' (first | exact trivial | exact wkE_refl _ | refine And.intro ?_ ?_)); done)) | refine RdN.intro _ rfl (by rfl) ?_); (conv => whnf))))
    -- 2: the field of what is asked, .slice a2 o.length c2: the value
    refine LdN.one (a := some ⟨ub, 0, none⟩) (q := 2) (.slice a2 o.length c2) rfl (fun w hw => hw.2.1) rfl ?_
    ((conv => whnf); (repeat ((first | refine VrN.norm (wrap_i64 (by omega)) ?_ | refine VrN.keep ?_ | refine DrawN.calm (by decide +kernel) ?_ | refine Nd.mk (by decide +kernel) ?_ | refine Nd.mk (by omega) ?_ | (refine Nd.mk ?_ ?_; focus ((repeat' (first | exact trivial | exact wkE_refl _ | refine And.intro ?_ ?_)); done)) | refine RdN.intro _ rfl (by rfl) ?_); (conv => whnf))))
    refine SpecF.call (Grown_c a2 c2 o ha2 hl2) (fun w hw => hw.1.1.2.1) fun v0 G0 hR0 => ?_
    have hgl := grown_len o
    have hbd := grown_bounds (l := o)
    obtain ⟨ob0, cap0, rfl, hob0, hc0, hG0⟩ := hR0
    ((conv => whnf); (repeat ((first | refine VrN.norm (wrap_i64 (by omega)) ?_ | refine VrN.keep ?_ | refine DrawN.calm (by decide +kernel) ?_ | refine Nd.mk (by decide +kernel) ?_ | refine Nd.mk (by omega) ?_ | (refine Nd.mk ?_ ?_; focus ((repeat' (first | exact trivial | exact wkE_refl _ | refine And.intro ?_ ?_)); done)) | refine RdN.intro _ rfl (by rfl) ?_); (conv => whnf))))
    refine SpecF.call (back_c ob0 cap0 (grownS o) hob0 (by omega)) (fun w hw => hG0 w hw.2.1) fun v1 G1 hR1 => ?_
    obtain ⟨ob, cap, rfl, hob, hcap, hG1⟩ := hR1
    ((conv => whnf); (repeat ((first | refine VrN.norm (wrap_i64 (by omega)) ?_ | refine VrN.keep ?_ | refine DrawN.calm (by decide +kernel) ?_ | refine Nd.mk (by decide +kernel) ?_ | refine Nd.mk (by omega) ?_ | (refine Nd.mk ?_ ?_; focus ((repeat' (first | exact trivial | exact wkE_refl _ | refine And.intro ?_ ?_)); done)) | refine RdN.intro _ rfl (by rfl) ?_); (conv => whnf))))
    -- 3: the field of what is asked, .slice a3 k.length c3: the value
    refine LdN.one (a := some ⟨ub, 0, none⟩) (q := 3) (.slice a3 k.length c3) rfl (fun w hw => hw.2.1) rfl ?_
    ((conv => whnf); (repeat ((first | refine VrN.norm (wrap_i64 (by omega)) ?_ | refine VrN.keep ?_ | refine DrawN.calm (by decide +kernel) ?_ | refine Nd.mk (by decide +kernel) ?_ | refine Nd.mk (by omega) ?_ | (refine Nd.mk ?_ ?_; focus ((repeat' (first | exact trivial | exact wkE_refl _ | refine And.intro ?_ ?_)); done)) | refine RdN.intro _ rfl (by rfl) ?_); (conv => whnf))))
    refine SpecF.call (Said_c a3 c3 k ha3 hl3) (fun w hw => hw.1.1.2.2) fun v2 G2 hR2 => ?_
    obtain ⟨W, wob, wcap, rfl, hwob, hwcap, hW30, hW4, hG2⟩ := hR2
    ((conv => whnf); (repeat ((first | refine VrN.norm (wrap_i64 (by omega)) ?_ | refine VrN.keep ?_ | refine DrawN.calm (by decide +kernel) ?_ | refine Nd.mk (by decide +kernel) ?_ | refine Nd.mk (by omega) ?_ | (refine Nd.mk ?_ ?_; focus ((repeat' (first | exact trivial | exact wkE_refl _ | refine And.intro ?_ ?_)); done)) | refine RdN.intro _ rfl (by rfl) ?_); (conv => whnf))))
    refine SpecF.call (Parse_c ob cap (grownS o) (at0 wob) wcap W hob hcap (by omega) hbd (fun h => hwob (by cases wob with | none => rfl | some b => cases h)) hwcap hW4) (fun w hw => ⟨hG1 w hw.2.2.1, by have := hG2 w hw.2.2.2.1; rwa [Nat.mul_one] at this, hw.1.2⟩) fun v3 G3 hR3 => ?_
    generalize hp : parseS (grownS o) W false = p at hR3
    obtain ⟨s, at1, e⟩ := p
    rcases hR3 with ⟨he, rfl⟩ | ⟨he, vb, gb, v, left, rfl, hv, hln, hgl2, hG3⟩
    · simp only at he
      (first | refine wX ?_ | exact wZ)
      refine brd_ne (fun h2 => ?_) (fun h2 => absurd h2 he)
      (first | refine wX ?_ | exact wZ)
      refine call1 (sane_c _ (fun w hw => hw.1.2)) ?_
      (first | refine wX ?_ | exact wZ)
    simp only at he hv hln hgl2 hG3
    subst he
    ((conv => whnf); (repeat ((first | refine VrN.norm (wrap_i64 (by omega)) ?_ | refine VrN.keep ?_ | refine DrawN.calm (by decide +kernel) ?_ | refine Nd.mk (by decide +kernel) ?_ | refine Nd.mk (by omega) ?_ | (refine Nd.mk ?_ ?_; focus ((repeat' (first | exact trivial | exact wkE_refl _ | refine And.intro ?_ ?_)); done)) | refine RdN.intro _ rfl (by rfl) ?_); (conv => whnf))))
    refine BoxN.known _ rfl fun pb => ?_
    ((conv => whnf); (repeat ((first | refine VrN.norm (wrap_i64 (by omega)) ?_ | refine VrN.keep ?_ | refine DrawN.calm (by decide +kernel) ?_ | refine Nd.mk (by decide +kernel) ?_ | refine Nd.mk (by omega) ?_ | (refine Nd.mk ?_ ?_; focus ((repeat' (first | exact trivial | exact wkE_refl _ | refine And.intro ?_ ?_)); done)) | refine RdN.intro _ rfl (by rfl) ?_); (conv => whnf))))
    have hlv : vlV left = .slice (at0 left.a) left.xs.length left.c := rfl
    refine EffW.appTo (i := 6) (q := 0) (ys := [.slice (some ⟨vb, 0, none⟩) (grownS o).length (grownS o).length, .slice (some ⟨gb, 0, none⟩) (grownS o).length (grownS o).length, vlV left]) [.slice (some ⟨vb, 0, none⟩) (grownS o).length (grownS o).length, .slice (some ⟨gb, 0, none⟩) (grownS o).length (grownS o).length, vlV left] 3 rfl rfl rfl rfl rfl rfl rfl (Nat.le_of_ble_eq_true rfl) rfl rfl ?_
    ((conv => whnf); (repeat ((first | refine VrN.norm (wrap_i64 (by omega)) ?_ | refine VrN.keep ?_ | refine DrawN.calm (by decide +kernel) ?_ | refine Nd.mk (by decide +kernel) ?_ | refine Nd.mk (by omega) ?_ | (refine Nd.mk ?_ ?_; focus ((repeat' (first | exact trivial | exact wkE_refl _ | refine And.intro ?_ ?_)); done)) | refine RdN.intro _ rfl (by rfl) ?_); (conv => whnf))))
    refine DrawN.planR hm (fun w => SlAt (some ⟨ub, 0, none⟩) 7 (askC (.slice sa sn sc) a l c a2 o c2 a3 k c3 st s1 s2) w) [0, 2, 6] [(7, 1), (1, 0), (3, 0), (4, 2), (5, 0), (8, 0), (9, 0), (10, 0), (11, 1), (12, 1), (13, 1), (14, 2), (15, 0), (16, 0), (17, 0)] (by decide +kernel) (fun w hw => hw.2.1) ?_
    -- fun w hw => hw.2.1: why the kind holds
    ((conv => whnf); (repeat ((first | refine Nd.mk (fun w hw => hw.2.1) ?_ | refine VrN.norm (wrap_i64 (by omega)) ?_ | refine VrN.keep ?_ | refine Nd.mk (by decide +kernel) ?_ | refine Nd.mk (by omega) ?_ | refine RdN.intro _ rfl (by rfl) ?_); (conv => whnf))))
    refine ReadC.one (a := some ⟨ub, 0, none⟩) (q := 1) (.slice a l.length c) rfl rfl rfl (fun w hw => hw) rfl ?_
    -- fun w hw => hw.2.1: why the kind holds
    ((conv => whnf); (repeat ((first | refine Nd.mk (fun w hw => hw.2.1) ?_ | refine VrN.norm (wrap_i64 (by omega)) ?_ | refine VrN.keep ?_ | refine Nd.mk (by decide +kernel) ?_ | refine Nd.mk (by omega) ?_ | refine RdN.intro _ rfl (by rfl) ?_); (conv => whnf))))
    refine RwN.known [] rfl fun rb => ?_
    -- fun w hw => hw.2.1: why the kind holds
    ((conv => whnf); (repeat ((first | refine Nd.mk (fun w hw => hw.2.1) ?_ | refine VrN.norm (wrap_i64 (by omega)) ?_ | refine VrN.keep ?_ | refine Nd.mk (by decide +kernel) ?_ | refine Nd.mk (by omega) ?_ | refine RdN.intro _ rfl (by rfl) ?_); (conv => whnf))))
    refine app_any 7 [] (strC W) rfl (Nat.le_refl _) (fun h => by cases wob with | none => rw [hwob rfl] at h; cases h | some b => rfl) (by show (strC W).length = W.length * 1; simp [strC]) (fun u hu => by obtain ⟨x, _, rfl⟩ := List.mem_map.1 hu; rfl) (fun w hw j v hv => (hG2 w hw.2.2.2.2.1).cell hv) ⟨⟨by show (0 + W.length) * 16 ≤ _; omega, by omega⟩, Nat.one_ne_zero⟩ fun b1 c1 h11 => ?_
    -- fun w hw => hw.2.1: why the kind holds
    ((conv => whnf); (repeat ((first | refine Nd.mk (fun w hw => hw.2.1) ?_ | refine VrN.norm (wrap_i64 (by omega)) ?_ | refine VrN.keep ?_ | refine Nd.mk (by decide +kernel) ?_ | refine Nd.mk (by omega) ?_ | refine RdN.intro _ rfl (by rfl) ?_); (conv => whnf))))
    try refine Nd.mk ⟨Nat.le_refl 1, rfl, rfl⟩ ?_
    (conv => whnf)
    refine AppN.grow 7 (strC W) [.string (bs [45, 45])] rfl rfl ⟨Nat.le_refl 1, ⟨by show (0 + W.length + 1) * 16 ≤ _; omega, by show 0 + W.length + 1 < _; omega⟩, Nat.one_ne_zero⟩ fun b2 c2' h21 h22 => ?_
    -- fun w hw => hw.2.1: why the kind holds
    ((conv => whnf); (repeat ((first | refine Nd.mk (fun w hw => hw.2.1) ?_ | refine VrN.norm (wrap_i64 (by omega)) ?_ | refine VrN.keep ?_ | refine Nd.mk (by decide +kernel) ?_ | refine Nd.mk (by omega) ?_ | refine RdN.intro _ rfl (by rfl) ?_); (conv => whnf))))
    refine app_any 7 (strC W ++ [.string (bs [45, 45])]) (strC l) rfl h21 (fun h => by cases a with | none => rw [ha rfl] at h; cases h | some b => rfl) (by show (strC l).length = l.length * 1; simp [strC]) (fun u hu => by obtain ⟨x, _, rfl⟩ := List.mem_map.1 hu; rfl) (fun w hw j v hv => (hw.1.1.1).cell hv) ⟨⟨by show (0 + W.length + 1 + l.length) * 16 ≤ _; omega, by omega⟩, Nat.one_ne_zero⟩ fun b3 c3' h31 => ?_
    -- fun w hw => hw.2.1: why the kind holds
    ((conv => whnf); (repeat ((first | refine Nd.mk (fun w hw => hw.2.1) ?_ | refine VrN.norm (wrap_i64 (by omega)) ?_ | refine VrN.keep ?_ | refine Nd.mk (by decide +kernel) ?_ | refine Nd.mk (by omega) ?_ | refine RdN.intro _ rfl (by rfl) ?_); (conv => whnf))))
    refine SpecH.shut 7 rfl ?_
    have hW2 : 0 + W.length + 1 + l.length = (W ++ [45, 45] :: l).length := by simp; omega
    have hcells : strC W ++ [.string (bs [45, 45])] ++ strC l = strC (W ++ [45, 45] :: l) := by simp [strC]
    refine SpecH.args (args' := pvs [.slice (at0 ob) (grownS o).length cap, .slice (some ⟨b3, 0, none⟩) (W ++ [45, 45] :: l).length c3', .bool false]) (by rw [← hW2]; rfl) ?_
    refine SpecF.call (Parse_c ob cap (grownS o) (some ⟨b3, 0, none⟩) c3' (W ++ [45, 45] :: l) hob hcap (by omega) hbd (fun h => by cases h) (by rw [← hW2]; exact h31) (fun w hw => by
      rcases List.mem_append.1 hw with h | h
      · exact hW4 w h
      · rcases List.mem_cons.1 h with rfl | h
        · decide
        · have := hl3' w h
          omega)) (fun w hw => ⟨hG1 w hw.2.2.1, by have h9 : SlAt (some ⟨b3, 0, none⟩) ((0 + W.length + 1 + l.length) * 1) (strC W ++ [.string (bs [45, 45])] ++ strC l) w := hw.2.2.2.2.2.1; rw [hW2, hcells, Nat.mul_one] at h9; exact h9, hw.1.2⟩) fun v4 G4 hR4 => ?_
    obtain ⟨s', hp2, hv2, hg2, hleft⟩ := parse_ends (X := l) (by omega) hp
    rw [hp2] at hR4
    rcases hR4 with ⟨he, _⟩ | ⟨he, vb2, gb2, v2, left2, rfl, hv3, hln2, hgl3, hG4⟩
    · exact absurd rfl he
    simp only at he hv3 hln2 hgl3 hG4
    -- fun w hw => hw.2.1: why the kind holds
    ((conv => whnf); (repeat ((first | refine Nd.mk (fun w hw => hw.2.1) ?_ | refine VrN.norm (wrap_i64 (by omega)) ?_ | refine VrN.keep ?_ | refine Nd.mk (by decide +kernel) ?_ | refine Nd.mk (by omega) ?_ | refine RdN.intro _ rfl (by rfl) ?_); (conv => whnf))))
    ((conv => whnf); (repeat ((first | refine VrN.norm (wrap_i64 (by omega)) ?_ | refine VrN.keep ?_ | refine DrawN.calm (by decide +kernel) ?_ | refine Nd.mk (by decide +kernel) ?_ | refine Nd.mk (by omega) ?_ | (refine Nd.mk ?_ ?_; focus ((repeat' (first | exact trivial | exact wkE_refl _ | refine And.intro ?_ ?_)); done)) | refine RdN.intro _ rfl (by rfl) ?_); (conv => whnf))))
    refine LdN.agg (a := some ⟨pb, 0, none⟩) (q := 0) [.slice (some ⟨vb, 0, none⟩) (grownS o).length (grownS o).length, .slice (some ⟨gb, 0, none⟩) (grownS o).length (grownS o).length, vlV left] rfl (fun w hw => hw.2.2.2.2.2.2.1) rfl (fun j hj => by rw [Nat.zero_add]) ?_
    ((conv => whnf); (repeat ((first | refine VrN.norm (wrap_i64 (by omega)) ?_ | refine VrN.keep ?_ | refine DrawN.calm (by decide +kernel) ?_ | refine Nd.mk (by decide +kernel) ?_ | refine Nd.mk (by omega) ?_ | (refine Nd.mk ?_ ?_; focus ((repeat' (first | exact trivial | exact wkE_refl _ | refine And.intro ?_ ?_)); done)) | refine RdN.intro _ rfl (by rfl) ?_); (conv => whnf))))
    refine SpecH.know (callOk Tryd.func12 (by kernel_rfl) rfl) (at0 left.a = none → left.xs = []) (fun w hw h => vl_none ((hG3 w hw.2.2.2.2.2.1).2.2.1) h) fun hn1 => ?_
    have hpl := parse_len (l := grownS o) (W := W) (K := 4001) (by omega) (fun w hw => Nat.succ_le_succ (hW4 w hw))
    have hpl2 := parse_len (l := grownS o) (W := W ++ [45, 45] :: l) (K := 4001) (by omega) (fun w hw => by
      rcases List.mem_append.1 hw with h | h
      · exact Nat.succ_le_succ (hW4 w h)
      · rcases List.mem_cons.1 h with rfl | h
        · decide
        · have := hl3' w h
          omega)
    rw [hp] at hpl
    rw [hp2] at hpl2
    simp only at hpl hpl2
    rw [← hW2] at hpl2
    have hll : left.xs.length ≤ 31 := by rw [hln]; omega
    have hll2 : left2.xs.length ≤ 200 := by rw [hln2]; omega
    have hvl : ∀ j, (v2 j).xs.length ≤ 200000000000000 := fun j => by rw [hv3 j]; have := hpl2.1 j; omega
    have hvv : ∀ j, (v j).xs = (v2 j).xs := fun j => by rw [hv j, hv3 j, hv2]
    refine call1 (result_c (some ⟨vb, 0, none⟩) (some ⟨gb, 0, none⟩) (at0 left.a) (grownS o).length (grownS o).length left.xs.length (grownS o).length (grownS o).length left.c _) ?_
    (first | refine wX ?_ | exact wZ)
    refine DrawN.planR hm (fun w => SlAt (some ⟨ub, 0, none⟩) 7 (askC (.slice sa sn sc) a l c a2 o c2 a3 k c3 st s1 s2) w ∧ SlAt (some ⟨pb, 0, none⟩) 3 [.slice (some ⟨vb, 0, none⟩) (grownS o).length (grownS o).length, .slice (some ⟨gb, 0, none⟩) (grownS o).length (grownS o).length, vlV left] w) [1, 4] [(5, 1), (2, 1), (0, 0), (3, 0), (6, 0), (7, 0), (8, 0)] (by decide +kernel) (fun w hw => ⟨hw.2.1, hw.2.2.2.2.2.2.1⟩) ?_
    -- fun w hw => ⟨hw.2.1, hw.2.2.2.2.2.2.1⟩: why the kind holds
    ((conv => whnf); (repeat ((first | refine Nd.mk (fun w hw => ⟨hw.2.1, hw.2.2.2.2.2.2.1⟩) ?_ | refine VrN.norm (wrap_i64 (by omega)) ?_ | refine VrN.keep ?_ | refine Nd.mk (by decide +kernel) ?_ | refine Nd.mk (by omega) ?_ | refine RdN.intro _ rfl (by rfl) ?_); (conv => whnf))))
    refine ReadC.one (a := some ⟨ub, 0, none⟩) (q := 1) (.slice a l.length c) rfl rfl rfl (fun w hw => hw.1) rfl ?_
    -- fun w hw => ⟨hw.2.1, hw.2.2.2.2.2.2.1⟩: why the kind holds
    ((conv => whnf); (repeat ((first | refine Nd.mk (fun w hw => ⟨hw.2.1, hw.2.2.2.2.2.2.1⟩) ?_ | refine VrN.norm (wrap_i64 (by omega)) ?_ | refine VrN.keep ?_ | refine Nd.mk (by decide +kernel) ?_ | refine Nd.mk (by omega) ?_ | refine RdN.intro _ rfl (by rfl) ?_); (conv => whnf))))
    refine ReadC.one (a := some ⟨pb, 0, none⟩) (q := 2) (.slice (at0 left.a) left.xs.length left.c) rfl rfl rfl (fun w hw => hw.2) rfl ?_
    -- fun w hw => ⟨hw.2.1, hw.2.2.2.2.2.2.1⟩: why the kind holds
    ((conv => whnf); (repeat ((first | refine Nd.mk (fun w hw => ⟨hw.2.1, hw.2.2.2.2.2.2.1⟩) ?_ | refine VrN.norm (wrap_i64 (by omega)) ?_ | refine VrN.keep ?_ | refine Nd.mk (by decide +kernel) ?_ | refine Nd.mk (by omega) ?_ | refine RdN.intro _ rfl (by rfl) ?_); (conv => whnf))))
    refine RwN.known [] rfl fun xb => ?_
    -- fun w hw => ⟨hw.2.1, hw.2.2.2.2.2.2.1⟩: why the kind holds
    ((conv => whnf); (repeat ((first | refine Nd.mk (fun w hw => ⟨hw.2.1, hw.2.2.2.2.2.2.1⟩) ?_ | refine VrN.norm (wrap_i64 (by omega)) ?_ | refine VrN.keep ?_ | refine Nd.mk (by decide +kernel) ?_ | refine Nd.mk (by omega) ?_ | refine RdN.intro _ rfl (by rfl) ?_); (conv => whnf))))
    refine app_any 12 [] (strC left.xs) rfl (Nat.le_refl _) (fun h => by cases hla : at0 left.a with | none => rw [hn1 hla] at h; cases h | some b => rfl) (by show (strC left.xs).length = left.xs.length * 1; simp [strC]) (fun u hu => by obtain ⟨x, _, rfl⟩ := List.mem_map.1 hu; rfl) (fun w hw j v hv => ((hG3 w hw.2.2.2.2.2.1).2.2.1).cell hv) ⟨⟨by show (0 + left.xs.length) * 16 ≤ _; omega, by omega⟩, Nat.one_ne_zero⟩ fun b4 c4 h41 => ?_
    -- fun w hw => ⟨hw.2.1, hw.2.2.2.2.2.2.1⟩: why the kind holds
    ((conv => whnf); (repeat ((first | refine Nd.mk (fun w hw => ⟨hw.2.1, hw.2.2.2.2.2.2.1⟩) ?_ | refine VrN.norm (wrap_i64 (by omega)) ?_ | refine VrN.keep ?_ | refine Nd.mk (by decide +kernel) ?_ | refine Nd.mk (by omega) ?_ | refine RdN.intro _ rfl (by rfl) ?_); (conv => whnf))))
    refine app_any 12 (strC left.xs) (strC l) rfl h41 (fun h => by cases a with | none => rw [ha rfl] at h; cases h | some b => rfl) (by show (strC l).length = l.length * 1; simp [strC]) (fun u hu => by obtain ⟨x, _, rfl⟩ := List.mem_map.1 hu; rfl) (fun w hw j v hv => (hw.1.1.1).cell hv) ⟨⟨by show (0 + left.xs.length + l.length) * 16 ≤ _; omega, by omega⟩, Nat.one_ne_zero⟩ fun b5 c5 h51 => ?_
    -- fun w hw => ⟨hw.2.1, hw.2.2.2.2.2.2.1⟩: why the kind holds
    ((conv => whnf); (repeat ((first | refine Nd.mk (fun w hw => ⟨hw.2.1, hw.2.2.2.2.2.2.1⟩) ?_ | refine VrN.norm (wrap_i64 (by omega)) ?_ | refine VrN.keep ?_ | refine Nd.mk (by decide +kernel) ?_ | refine Nd.mk (by omega) ?_ | refine RdN.intro _ rfl (by rfl) ?_); (conv => whnf))))
    have hX1 : 0 + left.xs.length + l.length = (left.xs ++ l).length := by simp
    have hc1 : strC left.xs ++ strC l = strC (left.xs ++ l) := by simp [strC]
    refine SpecH.plain (xs := [resV (grownS o).length vb2 gb2 left2, .agg #[.slice (some ⟨vb, 0, none⟩) (grownS o).length (grownS o).length, .slice (some ⟨gb, 0, none⟩) (grownS o).length (grownS o).length, .slice (some ⟨b5, 0, none⟩) (left.xs ++ l).length c5]]) (by rw [← hX1]; rfl) ?_
    refine call1 (same_c (grownS o).length vb2 gb2 vb gb v2 v s'.given left2 left (some ⟨b5, 0, none⟩) c5 (left.xs ++ l) (by omega) hvv hvl hgl3 (by omega) (by rw [← hX1]; omega) (fun h => by cases h) _ (fun w hw => ⟨⟨hG4 w hw.2.2.2.2.2.2.2.2.1, by have := hG3 w hw.2.2.2.2.2.1; rw [hg2]; exact this⟩, by
      have h9 : SlAt (some ⟨b5, 0, none⟩) ((0 + left.xs.length + l.length) * 1) (strC left.xs ++ strC l) w := hw.2.2.2.2.2.2.2.2.2.1
      rw [hX1, hc1] at h9
      exact h9⟩)) ?_
    by_cases hlx : left2.xs = left.xs ++ l
    · rw [decide_eq_true hlx]
      ((conv => whnf); (repeat ((first | refine VrN.norm (wrap_i64 (by omega)) ?_ | refine VrN.keep ?_ | refine DrawN.calm (by decide +kernel) ?_ | refine Nd.mk (by decide +kernel) ?_ | refine Nd.mk (by omega) ?_ | (refine Nd.mk ?_ ?_; focus ((repeat' (first | exact trivial | exact wkE_refl _ | refine And.intro ?_ ?_)); done)) | refine RdN.intro _ rfl (by rfl) ?_); (conv => whnf))))
      refine call1 (sane_c _ (fun w hw => hw.1.2)) ?_
      (first | refine wX ?_ | exact wZ)
    rw [decide_eq_false hlx]
    have hdd : [45, 45] ∈ W ∧ left2.xs = left.xs ++ [45, 45] :: l := by
      rcases hleft with h | ⟨h1, h2⟩
      · exact absurd (by rw [hln2, h, hln]) hlx
      · exact ⟨h1, by rw [hln2, h2, hln]⟩
    ((conv => whnf); (repeat ((first | refine VrN.norm (wrap_i64 (by omega)) ?_ | refine VrN.keep ?_ | refine DrawN.calm (by decide +kernel) ?_ | refine Nd.mk (by decide +kernel) ?_ | refine Nd.mk (by omega) ?_ | (refine Nd.mk ?_ ?_; focus ((repeat' (first | exact trivial | exact wkE_refl _ | refine And.intro ?_ ?_)); done)) | refine RdN.intro _ rfl (by rfl) ?_); (conv => whnf))))
    refine DrawN.planR hm (fun w => SlAt (some ⟨ub, 0, none⟩) 7 (askC (.slice sa sn sc) a l c a2 o c2 a3 k c3 st s1 s2) w ∧ SlAt (some ⟨pb, 0, none⟩) 3 [.slice (some ⟨vb, 0, none⟩) (grownS o).length (grownS o).length, .slice (some ⟨gb, 0, none⟩) (grownS o).length (grownS o).length, vlV left] w) [1, 6] [(7, 1), (2, 1), (0, 0), (3, 0), (4, 2), (5, 0), (8, 0), (9, 0), (10, 0)] (by decide +kernel) (fun w hw => ⟨hw.2.1, hw.2.2.2.2.2.2.1⟩) ?_
    -- fun w hw => ⟨hw.2.1, hw.2.2.2.2.2.2.1⟩: why the kind holds
    ((conv => whnf); (repeat ((first | refine Nd.mk (fun w hw => ⟨hw.2.1, hw.2.2.2.2.2.2.1⟩) ?_ | refine VrN.norm (wrap_i64 (by omega)) ?_ | refine VrN.keep ?_ | refine Nd.mk (by decide +kernel) ?_ | refine Nd.mk (by omega) ?_ | refine RdN.intro _ rfl (by rfl) ?_); (conv => whnf))))
    refine ReadC.one (a := some ⟨ub, 0, none⟩) (q := 1) (.slice a l.length c) rfl rfl rfl (fun w hw => hw.1) rfl ?_
    -- fun w hw => ⟨hw.2.1, hw.2.2.2.2.2.2.1⟩: why the kind holds
    ((conv => whnf); (repeat ((first | refine Nd.mk (fun w hw => ⟨hw.2.1, hw.2.2.2.2.2.2.1⟩) ?_ | refine VrN.norm (wrap_i64 (by omega)) ?_ | refine VrN.keep ?_ | refine Nd.mk (by decide +kernel) ?_ | refine Nd.mk (by omega) ?_ | refine RdN.intro _ rfl (by rfl) ?_); (conv => whnf))))
    refine ReadC.one (a := some ⟨pb, 0, none⟩) (q := 2) (.slice (at0 left.a) left.xs.length left.c) rfl rfl rfl (fun w hw => hw.2) rfl ?_
    -- fun w hw => ⟨hw.2.1, hw.2.2.2.2.2.2.1⟩: why the kind holds
    ((conv => whnf); (repeat ((first | refine Nd.mk (fun w hw => ⟨hw.2.1, hw.2.2.2.2.2.2.1⟩) ?_ | refine VrN.norm (wrap_i64 (by omega)) ?_ | refine VrN.keep ?_ | refine Nd.mk (by decide +kernel) ?_ | refine Nd.mk (by omega) ?_ | refine RdN.intro _ rfl (by rfl) ?_); (conv => whnf))))
    refine RwN.known [] rfl fun yb => ?_
    -- fun w hw => ⟨hw.2.1, hw.2.2.2.2.2.2.1⟩: why the kind holds
    ((conv => whnf); (repeat ((first | refine Nd.mk (fun w hw => ⟨hw.2.1, hw.2.2.2.2.2.2.1⟩) ?_ | refine VrN.norm (wrap_i64 (by omega)) ?_ | refine VrN.keep ?_ | refine Nd.mk (by decide +kernel) ?_ | refine Nd.mk (by omega) ?_ | refine RdN.intro _ rfl (by rfl) ?_); (conv => whnf))))
    refine app_any 13 [] (strC left.xs) rfl (Nat.le_refl _) (fun h => by cases hla : at0 left.a with | none => rw [hn1 hla] at h; cases h | some b => rfl) (by show (strC left.xs).length = left.xs.length * 1; simp [strC]) (fun u hu => by obtain ⟨x, _, rfl⟩ := List.mem_map.1 hu; rfl) (fun w hw j v hv => ((hG3 w hw.2.2.2.2.2.1).2.2.1).cell hv) ⟨⟨by show (0 + left.xs.length) * 16 ≤ _; omega, by omega⟩, Nat.one_ne_zero⟩ fun b6 c6 h61 => ?_
    -- fun w hw => ⟨hw.2.1, hw.2.2.2.2.2.2.1⟩: why the kind holds
    ((conv => whnf); (repeat ((first | refine Nd.mk (fun w hw => ⟨hw.2.1, hw.2.2.2.2.2.2.1⟩) ?_ | refine VrN.norm (wrap_i64 (by omega)) ?_ | refine VrN.keep ?_ | refine Nd.mk (by decide +kernel) ?_ | refine Nd.mk (by omega) ?_ | refine RdN.intro _ rfl (by rfl) ?_); (conv => whnf))))
    try refine Nd.mk ⟨Nat.le_refl 1, rfl, rfl⟩ ?_
    (conv => whnf)
    refine AppN.grow 13 (strC left.xs) [.string (bs [45, 45])] rfl rfl ⟨Nat.le_refl 1, ⟨by show (0 + left.xs.length + 1) * 16 ≤ _; omega, by show 0 + left.xs.length + 1 < _; omega⟩, Nat.one_ne_zero⟩ fun b7 c7 h71 h72 => ?_
    -- fun w hw => ⟨hw.2.1, hw.2.2.2.2.2.2.1⟩: why the kind holds
    ((conv => whnf); (repeat ((first | refine Nd.mk (fun w hw => ⟨hw.2.1, hw.2.2.2.2.2.2.1⟩) ?_ | refine VrN.norm (wrap_i64 (by omega)) ?_ | refine VrN.keep ?_ | refine Nd.mk (by decide +kernel) ?_ | refine Nd.mk (by omega) ?_ | refine RdN.intro _ rfl (by rfl) ?_); (conv => whnf))))
    refine app_any 13 (strC left.xs ++ [.string (bs [45, 45])]) (strC l) rfl h71 (fun h => by cases a with | none => rw [ha rfl] at h; cases h | some b => rfl) (by show (strC l).length = l.length * 1; simp [strC]) (fun u hu => by obtain ⟨x, _, rfl⟩ := List.mem_map.1 hu; rfl) (fun w hw j v hv => (hw.1.1.1).cell hv) ⟨⟨by show (0 + left.xs.length + 1 + l.length) * 16 ≤ _; omega, by omega⟩, Nat.one_ne_zero⟩ fun b8 c8 h81 => ?_
    -- fun w hw => ⟨hw.2.1, hw.2.2.2.2.2.2.1⟩: why the kind holds
    ((conv => whnf); (repeat ((first | refine Nd.mk (fun w hw => ⟨hw.2.1, hw.2.2.2.2.2.2.1⟩) ?_ | refine VrN.norm (wrap_i64 (by omega)) ?_ | refine VrN.keep ?_ | refine Nd.mk (by decide +kernel) ?_ | refine Nd.mk (by omega) ?_ | refine RdN.intro _ rfl (by rfl) ?_); (conv => whnf))))
    refine loopS Nat (fun i => i ≤ W.length) (fun i => mkS Tryd.f3.ntmps 0 [(4, .c (.v (.slice (at0 wob) W.length wcap))), (8, .c (.lp 10 0)), (11, .c (.lp 11 0)), (12, .c (.v (.bool (ddB (W.take i))))), (13, .c (.v (.int .i64 (i : Int))))]) (fun i => W.length - i) rfl (fun _ => rfl) 0 (Nat.zero_le _) ?_ ?_
    · (repeat' (first | exact trivial | refine And.intro (by with_reducible rfl) ?_ | (with_reducible exact wkC_refl _) | (with_reducible exact wkCs_refl _) | refine And.intro ?_ ?_))
      all_goals rfl
    intro i hi
    ((conv => whnf); (repeat ((first | refine VrN.norm (wrap_i64 (by omega)) ?_ | refine VrN.keep ?_ | refine DrawN.calm (by decide +kernel) ?_ | refine Nd.mk (by decide +kernel) ?_ | refine Nd.mk (by omega) ?_ | (refine Nd.mk ?_ ?_; focus ((repeat' (first | exact trivial | exact wkE_refl _ | refine And.intro ?_ ?_)); done)) | refine RdN.intro _ rfl (by rfl) ?_); (conv => whnf))))
    refine brd_dec (fun h2 => ?_) (fun h2 => ?_)
    · obtain ⟨x, hx⟩ : ∃ x, W[i]? = some x := ⟨_, List.getElem?_eq_getElem (by omega)⟩
      have hst := ddB_step hx
      have hsa : (at0 wob).isSome = true := by
        cases wob with
        | none => rw [hwob rfl] at hx; cases hx
        | some b => rfl
      cases hdb : ddB (W.take i) with
      | true =>
        rw [hdb, Bool.true_or] at hst
        ((conv => whnf); (repeat ((first | refine VrN.norm (wrap_i64 (by omega)) ?_ | refine VrN.keep ?_ | refine DrawN.calm (by decide +kernel) ?_ | refine Nd.mk (by decide +kernel) ?_ | refine Nd.mk (by omega) ?_ | (refine Nd.mk ?_ ?_; focus ((repeat' (first | exact trivial | exact wkE_refl _ | refine And.intro ?_ ?_)); done)) | refine RdN.intro _ rfl (by rfl) ?_); (conv => whnf))))
        refine ⟨i + 1, by omega, by omega, ?_, by (repeat' (first | exact trivial | exact wkE_refl _ | refine And.intro ?_ ?_))⟩
        (repeat' (first | exact trivial | refine And.intro (by with_reducible rfl) ?_ | (with_reducible exact wkC_refl _) | (with_reducible exact wkCs_refl _) | refine And.intro ?_ ?_))
        all_goals first | rfl | exact av_int (by rw [wrap_i64 (by omega)]; omega) | (rw [hst]; done) | (rw [hst]; rfl)
      | false =>
        rw [hdb, Bool.false_or] at hst
        ((conv => whnf); (repeat ((first | refine VrN.norm (wrap_i64 (by omega)) ?_ | refine VrN.keep ?_ | refine DrawN.calm (by decide +kernel) ?_ | refine Nd.mk (by decide +kernel) ?_ | refine Nd.mk (by omega) ?_ | (refine Nd.mk ?_ ?_; focus ((repeat' (first | exact trivial | exact wkE_refl _ | refine And.intro ?_ ?_)); done)) | refine RdN.intro _ rfl (by rfl) ?_); (conv => whnf))))
        refine Nd.mk ⟨hsa, by omega, by omega⟩ ?_
        ((conv => whnf); (repeat ((first | refine VrN.norm (wrap_i64 (by omega)) ?_ | refine VrN.keep ?_ | refine DrawN.calm (by decide +kernel) ?_ | refine Nd.mk (by decide +kernel) ?_ | refine Nd.mk (by omega) ?_ | (refine Nd.mk ?_ ?_; focus ((repeat' (first | exact trivial | exact wkE_refl _ | refine And.intro ?_ ?_)); done)) | refine RdN.intro _ rfl (by rfl) ?_); (conv => whnf))))
        refine LdN.one (.string (bs x)) rfl (fun w hw => hG2 w hw.2.2.2.2.1) (by rw [Int.toNat_natCast]; show (strC W)[i * 1]? = _; rw [Nat.mul_one]; exact strC_get hx) ?_
        ((conv => whnf); (repeat ((first | refine VrN.norm (wrap_i64 (by omega)) ?_ | refine VrN.keep ?_ | refine DrawN.calm (by decide +kernel) ?_ | refine Nd.mk (by decide +kernel) ?_ | refine Nd.mk (by omega) ?_ | (refine Nd.mk ?_ ?_; focus ((repeat' (first | exact trivial | exact wkE_refl _ | refine And.intro ?_ ?_)); done)) | refine RdN.intro _ rfl (by rfl) ?_); (conv => whnf))))
        refine ⟨i + 1, by omega, by omega, ?_, by (repeat' (first | exact trivial | exact wkE_refl _ | refine And.intro ?_ ?_))⟩
        (repeat' (first | exact trivial | refine And.intro (by with_reducible rfl) ?_ | (with_reducible exact wkC_refl _) | (with_reducible exact wkCs_refl _) | refine And.intro ?_ ?_))
        all_goals first | rfl | exact av_int (by rw [wrap_i64 (by omega)]; omega) | (rw [hst]; done) | (rw [hst, dd_eq]; done) | (rw [hst, dd_eq]; rfl)
    · have hin : i = W.length := by omega
      subst hin
      rw [List.take_length, ddB_mem hdd.1]
      ((conv => whnf); (repeat ((first | refine VrN.norm (wrap_i64 (by omega)) ?_ | refine VrN.keep ?_ | refine DrawN.calm (by decide +kernel) ?_ | refine Nd.mk (by decide +kernel) ?_ | refine Nd.mk (by omega) ?_ | (refine Nd.mk ?_ ?_; focus ((repeat' (first | exact trivial | exact wkE_refl _ | refine And.intro ?_ ?_)); done)) | refine RdN.intro _ rfl (by rfl) ?_); (conv => whnf))))
      have hX2 : 0 + left.xs.length + 1 + l.length = (left.xs ++ [45, 45] :: l).length := by simp; omega
      have hc2 : strC left.xs ++ [.string (bs [45, 45])] ++ strC l = strC (left.xs ++ [45, 45] :: l) := by simp [strC]
      refine SpecH.plain (xs := [resV (grownS o).length vb2 gb2 left2, .agg #[.slice (some ⟨vb, 0, none⟩) (grownS o).length (grownS o).length, .slice (some ⟨gb, 0, none⟩) (grownS o).length (grownS o).length, .slice (some ⟨b8, 0, none⟩) (left.xs ++ [45, 45] :: l).length c8]]) (by rw [← hX2]; rfl) ?_
      refine call1 (same_c (grownS o).length vb2 gb2 vb gb v2 v s'.given left2 left (some ⟨b8, 0, none⟩) c8 (left.xs ++ [45, 45] :: l) (by omega) hvv hvl hgl3 (by omega) (by rw [← hX2]; omega) (fun h => by cases h) _ (fun w hw => ⟨⟨hG4 w hw.2.2.2.2.2.2.2.2.1, by have := hG3 w hw.2.2.2.2.2.1; rw [hg2]; exact this⟩, by
        have h9 : SlAt (some ⟨b8, 0, none⟩) ((0 + left.xs.length + 1 + l.length) * 1) (strC left.xs ++ [.string (bs [45, 45])] ++ strC l) w := hw.2.2.2.2.2.2.2.2.2.2.1
        rw [hX2, hc2] at h9
        exact h9⟩)) ?_
      rw [decide_eq_true hdd.2]
      ((conv => whnf); (repeat ((first | refine VrN.norm (wrap_i64 (by omega)) ?_ | refine VrN.keep ?_ | refine DrawN.calm (by decide +kernel) ?_ | refine Nd.mk (by decide +kernel) ?_ | refine Nd.mk (by omega) ?_ | (refine Nd.mk ?_ ?_; focus ((repeat' (first | exact trivial | exact wkE_refl _ | refine And.intro ?_ ?_)); done)) | refine RdN.intro _ rfl (by rfl) ?_); (conv => whnf))))
      refine call1 (sane_c _ (fun w hw => hw.1.2)) ?_
      (first | refine wX ?_ | exact wZ)
end Go.Proofs.YteljlkkppaobeaaDoor

/-
  OptsEndsCardSaid is proved: of everything that may be asked OptsEnds returns true and leaves its argument as it was; the listed tables are tied to the program's text.
-/
namespace Go.Proofs.YteljlkkppaobeaaDoor
open Go.ChangeShapes Go.WideShapes Go.ChangeAt Go.RowKit Go.AX
set_option maxRecDepth 100000

theorem str_read {H : Type} {enc : TypeId × Value → H} {w : World} : ∀ n cs (y : DataW H × List MemPlace), DataW.trod enc Tryd.prog w 0 (fun _ => true) true n 9 cs = some y → (∀ k ∈ y.1.weights Tryd.prog 9, k ≤ reachBytes) → ∃ x : List UInt8, x.length ≤ 200000000000000 ∧ cs = [Value.string (bs x)] := by
  intro n cs y h hk
  obtain ⟨s, e, e2, _⟩ := DataW.trod_string Tryd.underlying9 h
  have hr : reachBytes < 200000000000000 := by decide
  have := hk s.data.toList.length (by rw [e2]; simp [DataW.weights])
  exact ⟨s.data.toList, by omega, by rw [bs_of]; exact e⟩
theorem int_read {H : Type} {enc : TypeId × Value → H} {w : World} : ∀ n cs (y : DataW H × List MemPlace), DataW.trod enc Tryd.prog w 0 (fun _ => true) true n 3 cs = some y → (∀ k ∈ y.1.weights Tryd.prog 3, k ≤ reachBytes) → ∃ x : Int, True ∧ cs = [Value.int .i64 x] := by
  intro n cs y h _
  obtain ⟨k, e, _⟩ := DataW.trod_int Tryd.underlying3 h
  exact ⟨k, trivial, e⟩
theorem flat_str (l : List (List UInt8)) : (l.flatMap fun x => [Value.string (bs x)]) = strC l := by
  induction l with
  | nil => rfl
  | cons x l ih => rw [List.flatMap_cons, ih]; rfl
theorem flat_int (l : List Int) : (l.flatMap fun x => [Value.int .i64 x]) = Proofs.YteljlkkppaobeaaDoor.iC l := by
  induction l with
  | nil => rfl
  | cons x l ih => rw [List.flatMap_cons, ih]; rfl
theorem slice_read {H : Type} {enc : TypeId × Value → H} {P : Program} {w : World} {n : Nat} {t e : TypeId} {cs : List Value} {y : DataW H × List MemPlace} (ht : P.underlying t = some (.slice e)) (h : DataW.trod enc P w 0 (fun _ => true) true n t cs = some y) : ∃ (sa : Option Addr) (sn sc : Nat), cs = [Value.slice sa sn sc] := by
  rcases DataW.trod_slice ht h with ⟨g, _⟩ | ⟨a, len, cap, _, _, _, _, g, _⟩
  · exact ⟨none, 0, 0, g⟩
  · exact ⟨some a, len, cap, g⟩
theorem ask_read {H : Type} {enc : TypeId × Value → H} {w : World} {n : Nat} {cs : List Value} {y : DataW H × List MemPlace} (h : DataW.trod enc Tryd.prog w 0 (fun _ => true) true n 26 cs = some y) (hk : ∀ k ∈ y.1.weights Tryd.prog 26, k ≤ reachBytes) :
    ∃ (sa : Option Addr) (sn sc : Nat) (a : Option Addr) (l : List (List UInt8)) (c : Nat) (a2 : Option Addr) (o : List Int) (c2 : Nat) (a3 : Option Addr) (k : List Int) (c3 : Nat) (st : Bool) (s1 s2 : ByteArray),
      cs = askC (.slice sa sn sc) a l c a2 o c2 a3 k c3 st s1 s2 ∧ (a = none → l = []) ∧ l.length ≤ 200000000000000 ∧ (∀ w ∈ l, w.length ≤ 200000000000000) ∧ (a2 = none → o = []) ∧ o.length ≤ 200000000000000 ∧ (a3 = none → k = []) ∧ k.length ≤ 200000000000000 ∧
      SlAt a (l.length * 1) (strC l) w ∧ SlAt a2 (o.length * 1) (Proofs.YteljlkkppaobeaaDoor.iC o) w ∧ SlAt a3 (k.length * 1) (Proofs.YteljlkkppaobeaaDoor.iC k) w := by
  have cB : Tryd.prog.cellsOf 4 = 1 := by kernel_rfl
  have cS : Tryd.prog.cellsOf 9 = 1 := by kernel_rfl
  have cO : Tryd.prog.cellsOf 22 = 1 := by kernel_rfl
  have cL : Tryd.prog.cellsOf 23 = 1 := by kernel_rfl
  have cI : Tryd.prog.cellsOf 24 = 1 := by kernel_rfl
  have cP : Tryd.prog.cellsOf 26 = 7 := by kernel_rfl
  obtain ⟨xs, n', _, hx, hlen, hxl, hf⟩ := DataW.trod_struct Tryd.underlying26 h
  have h0 := hf 0 _ rfl
  have h1 := hf 1 _ rfl
  have h2 := hf 2 _ rfl
  have h3 := hf 3 _ rfl
  have h4 := hf 4 _ rfl
  have h5 := hf 5 _ rfl
  have h6 := hf 6 _ rfl
  match xs, hxl with
  | [y0, y1, y2, y3, y4, y5, y6], _ =>
    have hw : ∀ k, k ∈ y0.1.weights Tryd.prog 22 ∨ k ∈ y1.1.weights Tryd.prog 23 ∨ k ∈ y2.1.weights Tryd.prog 24 ∨ k ∈ y3.1.weights Tryd.prog 24 → k ≤ reachBytes := fun k hk2 => hk k (by
      rw [hx]
      simp only [DataW.weights, Tryd.underlying26]
      simp [DataW.weightsEach]
      rcases hk2 with h | h | h | h
      · exact .inl h
      · exact .inr (.inl h)
      · exact .inr (.inr (.inl h))
      · exact .inr (.inr (.inr (.inl h))))
    obtain ⟨sa, sn, sc, e0⟩ := slice_read Tryd.underlying22 h0
    obtain ⟨a, l, c, e1, hl, hs, hn, hq⟩ := rows_in (m := 1) (fun x : List UInt8 => [Value.string (bs x)]) (fun _ => rfl) Tryd.underlying23 (by kernel_rfl) (by decide +kernel) str_read h1 (fun k hk2 => hw k (.inr (.inl hk2)))
    obtain ⟨a2, o, c2, e2, hl2, hs2, hn2, _⟩ := rows_in (m := 1) (fun x : Int => [Value.int .i64 x]) (fun _ => rfl) Tryd.underlying24 (by kernel_rfl) (by decide +kernel) int_read h2 (fun k hk2 => hw k (.inr (.inr (.inl hk2))))
    obtain ⟨a3, k3, c3, e3, hl3, hs3, hn3, _⟩ := rows_in (m := 1) (fun x : Int => [Value.int .i64 x]) (fun _ => rfl) Tryd.underlying24 (by kernel_rfl) (by decide +kernel) int_read h3 (fun k hk2 => hw k (.inr (.inr (.inr hk2))))
    obtain ⟨b, e4, _⟩ := DataW.trod_bool Tryd.underlying4 h4
    obtain ⟨s1, e5, _⟩ := DataW.trod_string Tryd.underlying9 h5
    obtain ⟨s2, e6, _⟩ := DataW.trod_string Tryd.underlying9 h6
    rw [flat_str] at hs
    rw [flat_int] at hs2 hs3
    rw [cP] at hlen
    match cs, hlen with
    | [d0, d1, d2, d3, d4, d5, d6], _ =>
      have f0 : List.take (Tryd.prog.cellsOf 22) (List.drop 0 [d0, d1, d2, d3, d4, d5, d6]) = [.slice sa sn sc] := e0
      have f1 : List.take (Tryd.prog.cellsOf 23) (List.drop 1 [d0, d1, d2, d3, d4, d5, d6]) = [.slice a l.length c] := e1
      have f2 : List.take (Tryd.prog.cellsOf 24) (List.drop 2 [d0, d1, d2, d3, d4, d5, d6]) = [.slice a2 o.length c2] := e2
      have f3 : List.take (Tryd.prog.cellsOf 24) (List.drop 3 [d0, d1, d2, d3, d4, d5, d6]) = [.slice a3 k3.length c3] := e3
      have f4 : List.take (Tryd.prog.cellsOf 4) (List.drop 4 [d0, d1, d2, d3, d4, d5, d6]) = [.bool b] := e4
      have f5 : List.take (Tryd.prog.cellsOf 9) (List.drop 5 [d0, d1, d2, d3, d4, d5, d6]) = [.string s1] := e5
      have f6 : List.take (Tryd.prog.cellsOf 9) (List.drop 6 [d0, d1, d2, d3, d4, d5, d6]) = [.string s2] := e6
      clear e0 e1 e2 e3 e4 e5 e6
      rw [cO] at f0
      rw [cL] at f1
      rw [cI] at f2 f3
      rw [cB] at f4
      rw [cS] at f5 f6
      simp at f0 f1 f2 f3 f4 f5 f6
      subst f0 f1 f2 f3 f4 f5 f6
      exact ⟨sa, sn, sc, a, l, c, a2, o, c2, a3, k3, c3, b, s1, s2, rfl, hn, hl, hq, hn2, hl2, hn3, hl3, hs, hs2, hs3⟩
namespace OptsEnds
theorem own : ownKnob Tryd.prog.godebug = none := own0
theorem walk {H : Type} {enc : TypeId × Value → H} (W : World) (base : Nat) (args : Array Value) (ds : List (DataW H)) (p : List MemPlace) (k : Known enc Tryd.prog Tryd.f3 W base args ds p) (_hL : laidMetH Tryd.prog laid3 W) : Walk Tryd.prog 3 args W := by
  obtain ⟨u, rfl⟩ := arr1 (trodAll_len k.trod).2
  obtain ⟨d, q, hd, n, h⟩ := trodAll_get k.trod 0 _ u rfl rfl
  obtain ⟨cs, rfl, _⟩ := okWide_struct Tryd.underlying26 (k.val 0 _ u rfl rfl)
  obtain ⟨sa, sn, sc, a, l, c, a2, o, c2, a3, k3, c3, st, s1, s2, hcs, hn, hl, hq, hn2, hl2, hn3, hl3, hs, hs2, hs3⟩ := ask_read h (fun x hx => by
    have := List.all_eq_true.1 k.weights x (DataW.weights_mem_each rfl hd x hx)
    simpa using this)
  obtain rfl : cs = (askC (.slice sa sn sc) a l c a2 o c2 a3 k3 c3 st s1 s2).toArray := by
    have : cs.toList = askC (.slice sa sn sc) a l c a2 o c2 a3 k3 c3 st s1 s2 := by simpa [Value.cells] using hcs
    rw [← this]
  exact walkH [.fact fun w => (SlAt a (l.length * 1) (strC l) w ∧ SlAt a2 (o.length * 1) (Proofs.YteljlkkppaobeaaDoor.iC o) w ∧ SlAt a3 (k3.length * 1) (Proofs.YteljlkkppaobeaaDoor.iC k3) w) ∧ MaxF w] (fun _ he => ⟨_, List.mem_singleton.1 he, (hs.imm.and (hs2.imm.and hs3.imm)).and (max_imm (max_of k.shaped))⟩)
    (OptsEnds_c sa sn sc a l c a2 o c2 a3 k3 c3 st s1 s2 hn hl hq hn2 hl2 hn3 hl3 _ fun w hw => by exact hw.1)

theorem lifted (os : Os) (started : os.Started) (H : Type) (enc : TypeId × Value → H) :
    ReturnsInHanded {} Tryd.checked os 3 .any (fun w args => (Rows.optsEndsSpec.pre enc Tryd.prog Tryd.f3 [] false w args ∧ laidMetH Tryd.prog laid3 w) ∧ sizedMet enc Tryd.prog Tryd.f3 (OpenSpec.ofChange Rows.optsEndsSpec) false w args) (Rows.optsEndsSpec.post enc Tryd.prog Tryd.f3 false true false false) := by
  refine liftS (C := Tryd.checked) own started (by kernel_rfl) Tryd.func3
    (ChangeSpec.witness_shaped (enc := enc) (C := Tryd.checked) (os := os) (X := fun w _ => laidMetH Tryd.prog laid3 w) false (World.laidAll Tryd.prog os laid3) #[.agg #[.slice none 0 0, .slice none 0 0, .slice none 0 0, .slice none 0 0, .bool false, .string ⟨#[]⟩, .string ⟨#[]⟩]] 8 (World.laidAll_os _ _ _) (World.shaped_of_ZipB (by kernel_rfl) (by kernel_rfl)) (by kernel_rfl) (by kernel_rfl) (by kernel_rfl) (door_met os _))
    laidOut rfl (t := _) rfl (by kernel_rfl) (by kernel_rfl) ?_ walk
  intro ds hd
  match ds, hd with
  | [d0], _ => rfl

theorem over : Rows.optsEndsRow.holds Tryd.pinned (OpenSpec.ofChange Rows.optsEndsSpec) :=
  OpenClaim.holds_of_wide 3 Tryd.f3 rfl rfl rfl rfl rfl rfl rfl ⟨rfl, rfl, rfl, rfl, rfl⟩ rfl rfl rfl rfl rfl (by kernel_rfl) Tryd.func3 (by kernel_rfl)
    (of_decide_eq_true (by kernel_rfl)) (by unfold Func.isWrapper; first | (rw [if_pos (by decide +kernel)]; kernel_rfl) | (rw [if_neg (by decide +kernel)]; exact ⟨rfl, rfl⟩))
    (fun os started H enc _ => lifted os started H enc)

theorem proved : Rows.OptsEndsCardSaid :=
  Claim7.holds_tied_plain_at .later [] [.data, .pinned, .pinned] true (true, "6f709233e1e106a44276ffa420b8c2917d77628b99ec7ff61b7667a7880bedc1") false
    over (fun _ h => by cases h) (by kernel_rfl) (fun _ h => by cases h) optsEnds_row_tie rfl ⟨rfl, rfl⟩ (by kernel_rfl) rfl
    (fun f fn hf hfn => by
      obtain rfl : f = 3 := Option.some.inj ((show Tryd.prog.funcNamed "cabochon/cabochonlaw09.OptsEnds" = some 3 by kernel_rfl).symm.trans hf) |>.symm
      obtain rfl : fn = Tryd.f3 := (Option.some.inj (Tryd.func3.symm.trans hfn)).symm
      exact ⟨by kernel_rfl, fun j t ht => by
        have hm : t ∈ Tryd.f3.params.toList := by simpa using Array.mem_of_getElem? ht
        have hall : (Tryd.f3.params.toList.all fun u => !Tryd.prog.wantsStandIn u) = true := by kernel_rfl
        exact (show Tryd.prog.wantsStandIn t = false by simpa using List.all_eq_true.1 hall t hm)⟩)
    (by kernel_rfl)
#print axioms proved
end OptsEnds
end Go.Proofs.YteljlkkppaobeaaDoor
