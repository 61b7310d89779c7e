/-
  Lemmas (Ax10 Ax11 Ax12).
-/
import Derived.Test.YtkgmaplkomhjdaaDoorPre2
set_option linter.unusedVariables false
set_option linter.unusedSimpArgs false
namespace Go.AX
section tail
variable {P : Program} {ops : Array Oper} {md : Region.Mode} {C : World → Prop}
end tail
theorem get_take {ρ : List Loc} {i n : Nat} {l : Loc} (h : ρ[i]? = some l) (hi : i < n) : (ρ.take n)[i]? = some l := by
 rw [List.getElem?_take, if_pos hi]; exact h
theorem relC_take {ρ : List Loc} {n : Nat} {c : CV} {x : Value} (h : c.rel ρ x) (hk : okC n c) : c.rel (ρ.take n) x := by
 cases c with
 | any => trivial
 | v y => exact h
 | lp i off => obtain ⟨l, hl, hx⟩ := h; exact ⟨l, get_take hl hk, hx⟩
 | sl i m => obtain ⟨l, hl, hx⟩ := h; exact ⟨l, get_take hl hk, hx⟩
theorem RelL_takeρ {ρ : List Loc} {n : Nat} : ∀ {cs : List CV} {xs : List Value}, RelL ρ cs xs → okCs n cs → RelL (ρ.take n) cs xs
 | [], [], _, _ => trivial
 | _ :: _, _ :: _, h, k => ⟨relC_take h.1 k.1, RelL_takeρ h.2 k.2⟩
 | [], _ :: _, h, _ => h.elim
 | _ :: _, [], h, _ => h.elim
theorem okCsB_eq {n : Nat} : ∀ {cs : List CV}, okCsB n cs = true → okCs n cs
 | [], _ => trivial
 | .any :: cs, h => ⟨trivial, okCsB_eq (cs := cs) h⟩
 | .v _ :: cs, h => ⟨trivial, okCsB_eq (cs := cs) h⟩
 | .lp i _ :: cs, h => by
  simp only [okCsB] at h
  split at h
  ·rename_i hi; exact ⟨by simpa [okC] using hi, okCsB_eq h⟩
  ·cases h
 | .sl i _ :: cs, h => by
  simp only [okCsB] at h
  split at h
  ·rename_i hi; exact ⟨by simpa [okC] using hi, okCsB_eq h⟩
  ·cases h
def okA (n : Nat) : AV → Prop
 | .c x => okC n x
 | .agg cs => okCs n cs
theorem okSB_cons {n : Nat} {a : AV} {s : List AV} (h : okSB n (a :: s) = true) : okA n a ∧ okSB n s = true := by
 cases a with
 | agg cs =>
  simp only [okSB] at h
  split at h
  ·rename_i hc; exact ⟨okCsB_eq hc, h⟩
  ·cases h
 | c c =>
  cases c with
  | any => exact ⟨trivial, h⟩
  | v x => exact ⟨trivial, h⟩
  | lp i o =>
   simp only [okSB] at h
   split at h
   ·rename_i hi; exact ⟨by simpa [okA, okC] using hi, h⟩
   ·cases h
  | sl i o =>
   simp only [okSB] at h
   split at h
   ·rename_i hi; exact ⟨by simpa [okA, okC] using hi, h⟩
   ·cases h
theorem relA_take {ρ : List Loc} {n : Nat} {av : AV} {x : Value} (h : av.rel ρ x) (hk : okA n av) : av.rel (ρ.take n) x := by
 cases av with
 | c c => exact relC_take (c := c) h hk
 | agg cs => obtain ⟨xs, hx, hr⟩ := h; exact ⟨xs, hx, RelL_takeρ hr hk⟩
theorem wkS_cons {a b : AV} {s t : List AV} (h : wkS (a :: s) (b :: t)) : (b = .c .any ∨ a = b) ∧ wkS s t := by
 cases b with
 | agg cs => exact ⟨.inr h.1, h.2⟩
 | c c =>
  cases c with
  | any => exact ⟨.inl rfl, h⟩
  | _ => exact ⟨.inr h.1, h.2⟩
theorem wkS_rel {ρ : List Loc} {n : Nat} : ∀ {s t : List AV} {xs : List Value}, wkS s t → okSB n t = true → RelS ρ s xs → RelS (ρ.take n) t xs
 | [], [], [], _, _, _ => trivial
 | a :: s, b :: t, x :: xs, h, k, r => by
  obtain ⟨h1, h2⟩ := wkS_cons h
  obtain ⟨k1, k2⟩ := okSB_cons k
  refine ⟨?_, wkS_rel h2 k2 r.2⟩
  rcases h1 with rfl | rfl
  ·trivial
  ·exact relA_take r.1 k1
 | [], [], _ :: _, _, _, r => r.elim
 | [], _ :: _, _, h, _, _ => h.elim
 | _ :: _, [], _, h, _, _ => h.elim
 | _ :: _, _ :: _, [], _, _, r => r.elim
theorem forceS_eq : ∀ (s : List AV) (K : List AV → Prop), forceS s K = K s
 | [], _ => rfl
 | a :: s, K => by simp only [forceS, forceA_eq, forceS_eq s]
theorem forceH_eq : ∀ (s : List Ent) (K : List Ent → Prop), forceH s K = K s
 | [], _ => rfl
 | a :: s, K => by simp only [forceH, forceH_eq s]
theorem wkCs_rel {ρ : List Loc} : ∀ {cs ds : List CV} {xs : List Value}, wkCs cs ds → RelL ρ cs xs → RelL ρ ds xs
  | [], [], [], _, _ => trivial
  | c :: cs, d :: ds, x :: xs, h, r => by
    refine ⟨?_, wkCs_rel h.2 r.2⟩
    have h1 := h.1
    cases d with
    | any => trivial
    | v y => have : c = .v y := by cases c <;> simp_all [wkC]
             subst this; exact r.1
    | lp i off => have : c = .lp i off := by cases c <;> simp_all [wkC]
                  subst this; exact r.1
    | sl i m => have : c = .sl i m := by cases c <;> simp_all [wkC]
                subst this; exact r.1
  | [], [], _ :: _, _, r => r.elim
  | [], _ :: _, _, h, _ => h.elim
  | _ :: _, [], _, h, _ => h.elim
  | _ :: _, _ :: _, [], _, r => r.elim
theorem wkH_get : ∀ {H G : List Ent} {i : Nat} {f : Ent}, wkH H G → G[i]? = some f → ∃ e, H[i]? = some e ∧ wkE e f
 | _ :: _, _ :: _, 0, f, h, hf => by simp at hf; subst hf; exact ⟨_, by simp, h.1⟩
 | _ :: H, _ :: G, i + 1, f, h, hf => by simp at hf ⊢; exact wkH_get h.2 hf
 | _, [], _, _, _, hf => by simp at hf
 | [], _ :: _, _, _, h, _ => h.elim
theorem wkH_len : ∀ {H G : List Ent}, wkH H G → G.length ≤ H.length
 | _, [], _ => by simp
 | _ :: _, _ :: _, h => by simp; exact wkH_len h.2
 | [], _ :: _, h => h.elim
theorem okH_get {n : Nat} : ∀ {H : List Ent} {i : Nat} {e : Ent}, okH n H → H[i]? = some e → okE n e
 | _ :: _, 0, _, h, he => by simp at he; subst he; exact h.1
 | _ :: _, _ + 1, _, h, he => by simp at he; exact okH_get h.2 he
 | [], _, _, _, he => by simp at he
theorem wkE_blk {ρ : List Loc} {n i b : Nat} {e f : Ent} (h : wkE e f) (hf : entB (ρ.take n) i f b) : entB ρ i e b := by
 have key : ∀ b, ((ρ.take n)[i]?).map Loc.b = some b → (ρ[i]?).map Loc.b = some b := fun b hb => by
  rw [List.getElem?_take] at hb
  split at hb
  ·exact hb
  ·cases hb
 cases f with
 | blk T cs => cases e <;> first | exact h.elim | exact key b hf
 | row T sz n cs => cases e <;> first | exact h.elim | exact key b hf
 | app T sz xs a n cap =>
  cases e <;> first | exact h.elim | skip
  ·rcases h with ⟨_, _, _, h1, _⟩ | ⟨_, h1, _⟩ | ⟨_, _, _, h1, _⟩
   ·subst h1
    exact hf
   ·subst h1; cases hf
   ·subst h1
    exact hf
  ·obtain ⟨_, h1, _⟩ := h
   subst h1; cases hf
 | mp b' es c =>
  cases e <;> first | exact h.elim | skip
  obtain ⟨rfl, _, _⟩ := h
  exact hf
 | fam B F =>
  cases e <;> first | exact h.elim | skip
  exact (h.1 b).1 hf
 | fact F => exact hf.elim
 | fz => exact hf.elim
 | dead => exact hf.elim
theorem Sat.weak {ρ : List Loc} {S : Nat → Prop} {H G : List Ent} {w : World} (h : Sat ρ S H w) (hw : wkH H G) (hk : okH G.length G) : Sat (ρ.take G.length) S G w ∧ ∀ b, mb (ρ.take G.length) G b → mb ρ H b := by
 have hlen := wkH_len hw
 have hmb : ∀ b, mb (ρ.take G.length) G b → mb ρ H b := by
  rintro b ⟨i, f, hf, hfb⟩
  obtain ⟨e, he, hwe⟩ := wkH_get hw hf
  exact ⟨i, e, he, wkE_blk hwe hfb⟩
 refine ⟨⟨by simp [h.len, hlen], fun i f hf => ?_, fun i j f g b hf hg hfb hgb => ?_, fun b hb => h.out b (hmb b hb), h.low⟩, hmb⟩
 ·obtain ⟨e, he, hwe⟩ := wkH_get hw hf
  have hi : i < G.length := (List.getElem?_eq_some_iff.1 hf).1
  have hok := okH_get hk hf
  have hee := h.ent i e he
  cases f with
  | dead => trivial
  | fact F =>
   cases e with
   | fact F' => exact ⟨hwe w hee.1, fun w' hw' => hwe w' (hee.2 w' hw')⟩
   | fz T sz n xs b cap => exact ⟨hwe w hee.2.1, fun w' hw' => hwe w' (hee.2.2 w' hw')⟩
   | _ => exact hwe.elim
  | fz T sz n xs b cap =>
   cases e with
   | fz =>
    obtain ⟨rfl, rfl, rfl, rfl, rfl, rfl⟩ := hwe
    exact ⟨get_take hee.1 hi, hee.2⟩
   | _ => exact hwe.elim
  | blk T cs =>
   cases e with
   | blk U ds =>
    obtain ⟨hT, hcs⟩ := hwe
    subst hT
    obtain ⟨l, arr, hl, hb, hr⟩ := hee
    exact ⟨l, arr, get_take hl hi, hb, RelL_takeρ (wkCs_rel hcs hr) hok⟩
   | _ => exact hwe.elim
  | row T sz n cs =>
   cases e with
   | row U b m ds =>
    obtain ⟨rfl, rfl, rfl, rfl⟩ := hwe
    obtain ⟨l, arr, hl, hb, h1, h2, h3, h4, hr⟩ := hee
    exact ⟨l, arr, get_take hl hi, hb, h1, h2, h3, h4, RelL_takeρ hr hok⟩
   | _ => exact hwe.elim
  | app T sz xs a n cap =>
   cases e with
   | app =>
    rcases hwe with ⟨rfl, rfl, rfl, rfl, rfl, rfl⟩ | ⟨rfl, rfl, rfl, rfl⟩ | ⟨rfl, rfl, rfl, rfl, hn, rfl⟩
    ·exact hee
    ·exact .inl ⟨rfl, rfl, rfl, rfl⟩
    ·rcases hee with ⟨rfl, rfl, rfl, rfl⟩ | ⟨b, rfl, hrow⟩
     ·exact .inl ⟨rfl, by omega, rfl, by simp⟩
     ·exact .inr ⟨b, rfl, hrow.less hn⟩
   | dead => obtain ⟨rfl, rfl, rfl, rfl⟩ := hwe; exact .inl ⟨rfl, rfl, rfl, rfl⟩
   | _ => exact hwe.elim
  | mp b es c =>
   cases e with
   | mp =>
    obtain ⟨rfl, rfl, rfl⟩ := hwe
    exact hee
   | _ => exact hwe.elim
  | fam B F =>
   cases e with
   | fam => exact ⟨⟨hwe.2 w hee.1.1, fun w' hw' => hwe.2 w' (hee.1.2 w' fun b hb => hw' b ((hwe.1 b).2 hb))⟩, fun b hb => hee.2 b ((hwe.1 b).1 hb)⟩
   | _ => exact hwe.elim
 ·obtain ⟨e, he, hwe⟩ := wkH_get hw hf
  obtain ⟨e', he', hwe'⟩ := wkH_get hw hg
  exact h.inj i j e e' b he he' (wkE_blk hwe hfb) (wkE_blk hwe' hgb)
section plan
variable {P : Program} {ops : Array Oper} {md : Region.Mode} {C : World → Prop}
structure PInv (md : Region.Mode) (ops : Array Oper) (pre tl : List Nat) (ls : Array Bool) : Prop where
 size : ls.size = ops.size
 closed : ∀ j oj, ops[j]? = some oj → ls.getD j false = true → ∀ e ∈ oj.after, Region.binds md e = true → ls.getD e.on false = true
 tl : ∀ t ∈ tl, ls.getD t false = false
 pre : ∀ k ∈ pre, ls.getD k false = true
theorem PInv.set {pre tl : List Nat} {i : Nat} {ls : Array Bool} (inv : PInv md ops pre tl ls) (hi : i ∈ Region.ready md ops ls) (hin : i ∉ tl) : PInv md ops pre tl (ls.setIfInBounds i true) := by
 obtain ⟨_, oi, hoi, hall⟩ := mem_ready.1 hi
 refine ⟨by simp [inv.size], fun j oj hj hl e he hb => ?_, fun t ht => by rw [getD_set_ne false (show i ≠ t from fun h => hin (by rw [h]; exact ht))]; exact inv.tl t ht, fun k hk => getD_set_true (inv.pre k hk)⟩
 by_cases hij : i = j
 ·subst hij
  have : oj = oi := Option.some.inj (hj.symm.trans hoi)
  subst this
  exact getD_set_true (hall e he hb)
 ·rw [getD_set_ne false hij] at hl
  exact getD_set_true (inv.closed j oj hj hl e he hb)
theorem sink_all {pre tl : List Nat} {ls : Array Bool} {t0 : Nat} (inv : PInv md ops pre tl ls) (h0 : t0 ∈ Region.ready md ops ls) : ∀ {hd : List Nat}, sinkL md ops t0 hd = true → ∀ i ∈ hd, ls.getD i false = true
 | [], _, i, hi => by cases hi
 | k :: l, h, i, hi => by
  simp only [sinkL, Bool.and_eq_true] at h
  have ih := sink_all inv h0 h.2
  cases hi with
  | tail _ hi => exact ih i hi
  | head =>
   obtain ⟨j, hj, hw⟩ := List.any_eq_true.1 h.1
   obtain ⟨oj, hoj, e, he, hb, hon⟩ := Region.waitsFor_spec hw
   cases hj with
   | head =>
    obtain ⟨_, o, ho, hall⟩ := mem_ready.1 h0
    have : oj = o := Option.some.inj (hoj.symm.trans ho)
    subst this
    rw [← hon]; exact hall e he hb
   | tail _ hj => rw [← hon]; exact inv.closed j oj hoj (ih j hj) e he hb
theorem chain_waits {pre tl hd : List Nat} {ls : Array Bool} (hc : chainL md ops hd tl = true) (inv : PInv md ops pre tl ls) {i : Nat} (hi : i ∈ hd) (hun : ls.getD i false = false) : ∀ t ∈ tl, t ∉ Region.ready md ops ls := by
 cases tl with
 | nil => intro t ht; cases ht
 | cons t0 l =>
  simp only [chainL, Bool.and_eq_true, List.all_eq_true] at hc
  intro t ht hr
  cases ht with
  | head =>
   have := sink_all inv hr hc.1 i hi
   rw [hun] at this; cases this
  | tail _ ht =>
   obtain ⟨t', ht', hw⟩ := List.any_eq_true.1 (hc.2 t ht)
   obtain ⟨oj, hoj, e, he, hb, hon⟩ := Region.waitsFor_spec hw
   obtain ⟨_, o, ho, hall⟩ := mem_ready.1 hr
   have : oj = o := Option.some.inj (hoj.symm.trans ho)
   subst this
   have := hall e he hb
   rw [hon, inv.tl t' ht'] at this
   cases this
def YR (P : Program) (ops : Array Oper) (C : World → Prop) (o : Oper) (v : Value) (a : Act) : Prop :=
 (Region.wanted o (yielded ops a.tmps) = true ∧ ∀ w, C w → (execOp a.eval o).run P w = .ok (.value v) w) ∨ (Region.wanted o (yielded ops a.tmps) = false ∧ v = undef)
theorem YR.same {o : Oper} {v : Value} {a a' : Act} (hy : YR P ops C o v a) (he : execOp a'.eval o = execOp a.eval o) (hw : Region.wanted o (yielded ops a'.tmps) = Region.wanted o (yielded ops a.tmps)) : YR P ops C o v a' := by
 unfold YR at *
 rw [he, hw]
 exact hy
theorem wpOp_swap {j : Nat} {oi oj : Oper} {v : Value} (hj : ops[j]? = some oj) (hap : oi.apart ops oj = true) (hsi : ∀ cs b, oi.op ≠ .select cs b) (hsj : ∀ cs b, oj.op ≠ .select cs b) {K : Act → World → Prop} {a : Act} {w : World} {Q : Exit → Act → World → Prop}
  (hQ : ∀ c a w, Q (.panic c) (a.put oi.dst v) w → Q (.panic c) a w) (hy : YR P ops C oi v a) (h : wpOp P ops Q j K (a.put oi.dst v) w) : wpOp P ops Q j (fun a' w' => YR P ops C oi v a' ∧ K (a'.put oi.dst v) w') a w := by
 obtain ⟨h1, h2, h3⟩ := Oper.apart_spec hap
 have keep : ∀ u, YR P ops C oi v (a.put oj.dst u) := fun u => hy.same (execOp_put oi hsi a oj.dst u h3) (wanted_put oi a oj.dst u h3)
 unfold wpOp at *
 simp only [hj] at *
 rw [wanted_put oj a oi.dst v h1] at h
 split
 ·rename_i hw
  rw [if_pos hw] at h
  rcases h with h | ⟨hasks, hlets⟩
  ·refine .inl ?_
   unfold Oper.wp at *
   rw [execOp_put oj hsj a oi.dst v h1] at h
   generalize (execOp a.eval oj).run P w = r at *
   cases r with
   | ok n w' =>
    cases n <;> simp only [Oper.upon] at h ⊢
    case value u => exact ⟨keep u, by rw [← Act.put_comm a v u h2]; exact h⟩
    case skip => exact ⟨keep _, by rw [← Act.put_comm a v undef h2]; exact h⟩
    case defer d =>
     refine ⟨(hy.same (a' := { a with defers := d :: a.defers }) rfl rfl).same (execOp_put oi hsi _ oj.dst undef h3) (wanted_put oi _ oj.dst undef h3), ?_⟩
     rw [← Act.put_comm _ v undef h2, ← Act.put_defers]
     exact h
    case enter f args =>
     refine h.mono fun e w'' he => ?_
     cases e with
     | returned u => exact ⟨keep u, by rw [← Act.put_comm a v u h2]; exact he⟩
     | panicked c => exact hQ _ _ _ he
     | outgrown => exact he
    case row row args => exact h.mono fun u w'' he => ⟨keep u, by rw [← Act.put_comm a v u h2]; exact he⟩
   | halt x w' =>
    cases x <;> simp only [Oper.upon] at h ⊢
    case panic u => exact hQ _ _ _ h
  ·exact .inr ⟨by unfold Oper.asks at *; rw [execOp_put oj hsj a oi.dst v h1] at hasks; exact hasks, hlets⟩
 ·rename_i hw
  rw [if_neg hw] at h
  exact ⟨keep _, by rw [← Act.put_comm a v undef h2]; exact h⟩
theorem preB_inv {pre0 tl : List Nat} : ∀ (l done : List Nat) (ls : Array Bool), PInv md ops done tl ls → preB md ops l ls = true → (∀ k ∈ l, k ∉ tl) → (∀ k ∈ l, k < ops.size) → PInv md ops (done ++ l) tl (setAll ls l)
 | [], done, ls, inv, _, _, _ => by simpa [setAll] using inv
 | k :: l, done, ls, inv, hB, hn, hlt => by
  simp only [preB, Bool.and_eq_true] at hB
  have hr : k ∈ Region.ready md ops ls := by simpa using hB.1.1
  have i1 := inv.set hr (hn k (by simp))
  have i2 : PInv md ops (done ++ [k]) tl (ls.setIfInBounds k true) := ⟨i1.size, i1.closed, i1.tl, fun j hj => by
   rcases List.mem_append.1 hj with hj | hj
   ·exact i1.pre j hj
   ·simp at hj; subst hj
    have hlt' : j < ls.size := by rw [inv.size]; exact hlt j (by simp)
    simp [hlt']⟩
  have := preB_inv (pre0 := pre0) l (done ++ [k]) _ i2 hB.2 (fun j hj => hn j (by simp [hj])) (fun j hj => hlt j (by simp [hj]))
  simpa [setAll] using this
theorem okCs_of {ρ : List Loc} : ∀ {cs : List CV} {xs : List Value}, RelL ρ cs xs → okCs ρ.length cs
 | [], [], _ => trivial
 | c :: cs, x :: xs, h => by
  refine ⟨?_, okCs_of h.2⟩
  have h1 := h.1
  cases c with
  | any => trivial
  | v y => trivial
  | lp i off => obtain ⟨l, hl, _⟩ := h1; exact (List.getElem?_eq_some_iff.1 hl).1
  | sl i n => obtain ⟨l, hl, _⟩ := h1; exact (List.getElem?_eq_some_iff.1 hl).1
 | [], _ :: _, h => h.elim
 | _ :: _, [], h => h.elim
theorem okH_of {n : Nat} : ∀ {H : List Ent}, (∀ e ∈ H, okE n e) → okH n H
 | [], _ => trivial
 | e :: H, h => ⟨h e (by simp), okH_of fun e' he => h e' (by simp [he])⟩
theorem Sat.okH {ρ : List Loc} {S : Nat → Prop} {H : List Ent} {w : World} (h : Sat ρ S H w) : okH H.length H := by
 refine okH_of fun e he => ?_
 obtain ⟨i, hi⟩ := List.getElem?_of_mem he
 have := h.ent i e hi
 rw [← h.len]
 cases e with
 | blk T cs => obtain ⟨l, arr, _, _, hr⟩ := this; exact okCs_of hr
 | row T sz n cs => obtain ⟨l, arr, _, _, _, _, _, _, hr⟩ := this; exact okCs_of hr
 | _ => trivial
theorem Cls.up {ρ ρ1 : List Loc} {S S1 : Nat → Prop} {H H1 : List Ent} {w w1 w' : World} (hs : Sat ρ S H w) (hev : Ev ρ S H w ρ1 S1 H1 w1) (hw : wkH H1 H) (h : Cls ρ1 S1 H1 w1 w') : Cls ρ S H w w' := by
 obtain ⟨S', hs', hev'⟩ := h
 have h1 := hs'.weak hw hs.okH
 obtain ⟨t, ht⟩ := hev.pre
 have hρ : ρ1.take H.length = ρ := by rw [ht, ← hs.len]; simp
 rw [hρ] at h1
 have h12 := hev.trans hev'
 exact ⟨S', h1.1, ⟨⟨[], by simp⟩, h12.os, h12.tape, h12.output, h12.size, h12.keep, h12.imm, fun b hb => .inl hb⟩⟩
def AnyC (P : Program) (ops : Array Oper) (Q : Exit → Act → World → Prop) (C : World → Prop) (tl : List Nat) : Nat → Array Bool → Act → World → Prop
 | 0, ls, a, w => ((∀ t ∈ tl, ls.getD t false = false) → C w) ∧ Region.ready .any ops ls = [] ∧ Q .normal a w
 | f + 1, ls, a, w => ((∀ t ∈ tl, ls.getD t false = false) → C w) ∧ (Region.ready .any ops ls = [] → Q .normal a w) ∧ ∀ i ∈ Region.ready .any ops ls, wpOp P ops Q i (AnyC P ops Q C tl f (ls.setIfInBounds i true)) a w
section
variable {Q : Exit → Act → World → Prop} {tl : List Nat}
theorem AnyC.cls {f : Nat} {ls : Array Bool} {a : Act} {w : World} (h : AnyC P ops Q C tl f ls a w) : (∀ t ∈ tl, ls.getD t false = false) → C w := by cases f <;> exact h.1
theorem AnyC.mono {C' : World → Prop} (hc : ∀ w, C w → C' w) : ∀ (f : Nat) (ls : Array Bool) (a : Act) (w : World), AnyC P ops Q C tl f ls a w → AnyC P ops Q C' tl f ls a w
 | 0, _, _, _, h => ⟨fun h0 => hc _ (h.1 h0), h.2⟩
 | f + 1, _, _, _, h => ⟨fun h0 => hc _ (h.1 h0), h.2.1, fun i hi => wpOp_mono (fun a w => AnyC.mono hc f _ a w) (h.2.2 i hi)⟩
theorem AnyC.any : ∀ (f : Nat) (ls : Array Bool) (a : Act) (w : World), AnyC P ops Q C tl f ls a w → wpAny P .any ops Q f ls a w
 | 0, _, _, _, h => h.2
 | f + 1, _, _, _, h => ⟨h.2.1, fun i hi => wpOp_mono (fun a w => AnyC.any f _ a w) (h.2.2 i hi)⟩
theorem anyC_of {t : Nat} (ht : t ∈ tl) : ∀ (f : Nat) (ls : Array Bool) (a : Act) (w : World), ls.getD t false = true → wpAny P .any ops Q f ls a w → AnyC P ops Q C tl f ls a w
 | 0, ls, _, _, hl, h => ⟨fun h0 => (by rw [h0 t ht] at hl; cases hl), h⟩
 | f + 1, ls, _, _, hl, h => ⟨fun h0 => (by rw [h0 t ht] at hl; cases hl), h.1, fun i hi => wpOp_mono (fun a w => anyC_of ht f _ a w (getD_set_true hl)) (h.2 i hi)⟩
theorem anyC_take {pre hd hq fl : List Nat} {i : Nat} {oi : Oper} {v : Value} (hi : ops[i]? = some oi) (hsel : ∀ (j : Nat) (o : Oper) cs b, ops[j]? = some o → o.op ≠ .select cs b)
  (hQ : ∀ c a w, Q (.panic c) (a.put oi.dst v) w → Q (.panic c) a w) (hc : chainL .any ops hq tl = true ∨ tl = []) (hcov : ∀ j, j < ops.size → j ∈ pre ∨ j ∈ hd ∨ j ∈ fl ∨ j ∈ tl) (hnt : ∀ j ∈ hd, j ∉ tl) (hft : ∀ j ∈ fl, j ∉ tl) (hin : i ∈ hd) (hiq : i ∈ hq) :
  ∀ (f : Nat) (ls : Array Bool) (a : Act) (w : World), PInv .any ops pre tl ls →
   (∀ j oj, ops[j]? = some oj → j ≠ i → ls.getD j true = false → (∀ e ∈ oj.after, Region.binds .any e = true → e.on ≠ i) → oi.apart ops oj = true) →
   i ∈ Region.ready .any ops ls → YR P ops C oi v a → AnyC P ops Q C tl f (ls.setIfInBounds i true) (a.put oi.dst v) w → AnyC P ops Q C tl (f + 1) ls a w := by
 have nt : ∀ (ls : Array Bool), PInv .any ops pre tl ls → i ∈ Region.ready .any ops ls → ∀ j ∈ Region.ready .any ops ls, j ∉ tl := fun ls inv hr j hj => by
  have hun := (mem_ready.1 hr).1
  obtain ⟨hjun, oj, hoj, _⟩ := mem_ready.1 hj
  rcases hcov j (Array.getElem?_eq_some_iff.1 hoj).1 with h | h | h | h
  ·have := inv.pre j h; rw [getD_both hjun] at this; cases this
  ·exact hnt j h
  ·exact hft j h
  ·rcases hc with hc | hc
   ·exact absurd hj (chain_waits hc inv hiq (getD_both hun) j h)
   ·rw [hc] at h; cases h
 have unl : ∀ (ls : Array Bool), PInv .any ops pre tl ls → ∀ t ∈ tl, (ls.setIfInBounds i true).getD t false = false := fun ls inv t ht => by
  rw [getD_set_ne false (show i ≠ t from fun h => hnt i hin (by rw [h]; exact ht))]; exact inv.tl t ht
 have own : ∀ (f : Nat) (ls : Array Bool) (a : Act) (w : World), PInv .any ops pre tl ls → YR P ops C oi v a → AnyC P ops Q C tl f (ls.setIfInBounds i true) (a.put oi.dst v) w → wpOp P ops Q i (AnyC P ops Q C tl f (ls.setIfInBounds i true)) a w := fun f ls a w inv hy hH => by
  unfold wpOp
  simp only [hi]
  rcases hy with ⟨hw, hv⟩ | ⟨hw, rfl⟩
  ·rw [if_pos hw]
   refine .inl ?_
   unfold Oper.wp
   rw [hv w (hH.cls (unl ls inv))]
   exact hH
  ·rw [if_neg (by simp [hw])]; exact hH
 intro f
 induction f with
 | zero =>
  intro ls a w inv _ hr hy hL
  refine ⟨fun _ => hL.cls (unl ls inv), fun h0 => (by rw [h0] at hr; cases hr), fun j hj => ?_⟩
  by_cases hji : j = i
  ·subst hji; exact own 0 ls a w inv hy hL
  ·have := ready_mono hj hji; rw [hL.2.1] at this; cases this
 | succ f ih =>
  intro ls a w inv hfree hr hy hH
  have hun := (mem_ready.1 hr).1
  refine ⟨fun _ => hH.cls (unl ls inv), fun h0 => (by rw [h0] at hr; cases hr), fun j hj => ?_⟩
  by_cases hji : j = i
  ·subst hji; exact own (f + 1) ls a w inv hy hH
  ·obtain ⟨hjun, oj, hoj, hall⟩ := mem_ready.1 hj
   have hno : ∀ e ∈ oj.after, Region.binds .any e = true → e.on ≠ i := fun e he hb he2 => by
    have := hall e he hb
    rw [he2, getD_both hun] at this
    cases this
   have h1 := wpOp_swap hoj (hfree j oj hoj hji hjun hno) (fun cs b => hsel i oi cs b hi) (fun cs b => hsel j oj cs b hoj) hQ hy (hH.2.2 j (ready_mono hj hji))
   refine wpOp_mono (fun a' w' h3 => ih (ls.setIfInBounds j true) a' w' (inv.set hj (nt ls inv hr j hj)) (fun k ok hk hki hun' hno' => ?_) (ready_mono hr (Ne.symm hji)) h3.1 ?_) h1
   ·refine hfree k ok hk hki ?_ hno'
    by_cases hjk : j = k
    ·subst hjk; exact hjun
    ·rw [getD_set_ne true hjk] at hun'; exact hun'
   ·rw [Array.setIfInBounds_comm _ _ hji]; exact h3.2
theorem anyC_blind {i : Nat} {oi : Oper} {v : Value} (hi : ops[i]? = some oi) (hsel : ∀ (j : Nat) (o : Oper) cs b, ops[j]? = some o → o.op ≠ .select cs b)
  (hQ : ∀ c a w, Q (.panic c) (a.put oi.dst v) w → Q (.panic c) a w) (hin : i ∉ tl) :
  ∀ (f : Nat) (ls : Array Bool) (a : Act) (w : World),
   (∀ j oj, ops[j]? = some oj → j ≠ i → ls.getD j true = false → (∀ e ∈ oj.after, Region.binds .any e = true → e.on ≠ i) → oi.apart ops oj = true) →
   i ∈ Region.ready .any ops ls → Yields P ops oi v a → AnyC P ops Q C tl f (ls.setIfInBounds i true) (a.put oi.dst v) w → AnyC P ops Q C tl (f + 1) ls a w := by
 have unl : ∀ (ls : Array Bool), (∀ t ∈ tl, ls.getD t false = false) → ∀ t ∈ tl, (ls.setIfInBounds i true).getD t false = false := fun ls h t ht => by
  rw [getD_set_ne false (show i ≠ t from fun e => hin (by rw [e]; exact ht))]; exact h t ht
 intro f
 induction f with
 | zero =>
  intro ls a w _ hr hy hL
  refine ⟨fun h => hL.cls (unl ls h), fun h0 => (by rw [h0] at hr; cases hr), fun j hj => ?_⟩
  by_cases hji : j = i
  ·subst hji; exact hy.wpOp hi hL
  ·have := ready_mono hj hji; rw [hL.2.1] at this; cases this
 | succ f ih =>
  intro ls a w hfree hr hy hH
  have hun := (mem_ready.1 hr).1
  refine ⟨fun h => hH.cls (unl ls h), fun h0 => (by rw [h0] at hr; cases hr), fun j hj => ?_⟩
  by_cases hji : j = i
  ·subst hji; exact hy.wpOp hi hH
  ·obtain ⟨hjun, oj, hoj, hall⟩ := mem_ready.1 hj
   have hno : ∀ e ∈ oj.after, Region.binds .any e = true → e.on ≠ i := fun e he hb he2 => by
    have := hall e he hb
    rw [he2, getD_both hun] at this
    cases this
   have h1 := wpOp_put hoj (hfree j oj hoj hji hjun hno) (fun cs b => hsel i oi cs b hi) (fun cs b => hsel j oj cs b hoj) hQ hy (hH.2.2 j (ready_mono hj hji))
   refine wpOp_mono (fun a' w' h3 => ih (ls.setIfInBounds j true) a' w' (fun k ok hk hki hun' hno' => ?_) (ready_mono hr (Ne.symm hji)) h3.1 ?_) h1
   ·refine hfree k ok hk hki ?_ hno'
    by_cases hjk : j = k
    ·subst hjk; exact hjun
    ·rw [getD_set_ne true hjk] at hun'; exact hun'
   ·rw [Array.setIfInBounds_comm _ _ hji]; exact h3.2
end
structure Fl where
 i : Nat
 d : Nat
 b : Nat
 ptr : Value
def pt : Act → List Fl → Act
 | a, [] => a
 | a, e :: E => (pt a E).put (some e.d) e.ptr
structure Hid (P : Program) (ops : Array Oper) (ρ : List Loc) (S : Nat → Prop) (H : List Ent) (w : World) (base : Nat) (e : Fl) : Prop where
 mk ::
 op : ∃ o D, ops[e.i]? = some o ∧ mkD P o = some D ∧ o.guard = none ∧ o.dst = some e.d ∧ e.ptr = D.val e.b ∧ w.heap[e.b]? = some (.cells D.cells D.T (0, 0))
 s : ¬ S e.b
 m : ¬ mb ρ H e.b
 lo : base ≤ e.b
theorem Hid.lt {ρ : List Loc} {S : Nat → Prop} {H : List Ent} {w : World} {base : Nat} {e : Fl} (h : Hid P ops ρ S H w base e) : e.b < w.heap.size := by
 obtain ⟨o, D, _, _, _, _, _, hb⟩ := h.op
 exact (Array.getElem?_eq_some_iff.1 hb).1
theorem Hid.step {ρ ρ1 : List Loc} {S S1 : Nat → Prop} {H H1 : List Ent} {w w1 : World} {base : Nat} {e : Fl} (h : Hid P ops ρ S H w base e) (hev : Ev ρ S H w ρ1 S1 H1 w1) : Hid P ops ρ1 S1 H1 w1 base e := by
 have hlt := h.lt
 obtain ⟨o, D, h1, h2, h3, h4, h5, hb⟩ := h.op
 refine ⟨⟨o, D, h1, h2, h3, h4, h5, by rw [hev.keep e.b hlt h.m]; exact hb⟩, fun hS => ?_, fun hm => ?_, h.lo⟩
 ·rcases hev.imm e.b hS with h' | h' | h'
  ·exact h.s h'
  ·exact h.m h'
  ·omega
 ·rcases hev.own e.b hm with h' | h'
  ·exact h.m h'
  ·omega
def Off (ops : Array Oper) (ok : Oper) (e : Fl) : Prop := e.d ∉ ok.looksAt ops ∧ ok.dst ≠ some e.d
theorem exec_pt {o : Oper} (hs : ∀ cs b, o.op ≠ .select cs b) (a : Act) : ∀ E : List Fl, (∀ e ∈ E, Off ops o e) → execOp (pt a E).eval o = execOp a.eval o ∧ Region.wanted o (yielded ops (pt a E).tmps) = Region.wanted o (yielded ops a.tmps)
 | [], _ => ⟨rfl, rfl⟩
 | e :: E, h => by
  have ih := exec_pt hs a E fun e' he => h e' (by simp [he])
  have h1 := (h e (by simp)).1
  exact ⟨(execOp_put (ops := ops) o hs (pt a E) (some e.d) e.ptr fun d hd => by cases hd; exact h1).trans ih.1, (wanted_put o (pt a E) (some e.d) e.ptr fun d hd => by cases hd; exact h1).trans ih.2⟩
theorem put_pt (a : Act) (d : Option Nat) (v : Value) : ∀ E : List Fl, (∀ e ∈ E, d ≠ some e.d) → (pt a E).put d v = pt (a.put d v) E
 | [], _ => rfl
 | e :: E, h => by
  rw [pt, pt, Act.put_comm _ e.ptr v fun d' hd => by cases hd; exact h e (by simp), put_pt a d v E fun e' he => h e' (by simp [he])]
theorem op_pt {k : Nat} {o : Oper} {Q : Exit → Act → World → Prop} {G : Act → World → Prop} (ho : ops[k]? = some o) (hs : ∀ cs b, o.op ≠ .select cs b) {a : Act} {w : World} {E : List Fl} (hE : ∀ e ∈ E, Off ops o e)
  (hQ : ∀ c a d v w, Q (.panic c) a w → Q (.panic c) (Act.put a d v) w) (h : wpOp P ops Q k (fun a' w' => G (pt a' E) w') a w) : wpOp P ops Q k G (pt a E) w := by
 have hQE : ∀ c a w, Q (.panic c) a w → ∀ E, Q (.panic c) (pt a E) w := fun c a w hq E => by
  induction E with
  | nil => exact hq
  | cons e E ih => exact hQ c _ _ _ w ih
 obtain ⟨e1, e2⟩ := exec_pt (ops := ops) hs a E hE
 have hd : ∀ e ∈ E, o.dst ≠ some e.d := fun e he => (hE e he).2
 unfold wpOp at *
 simp only [ho] at *
 rw [e2]
 split
 ·rename_i hw
  rw [if_pos hw] at h
  rcases h with h | ⟨hasks, hlets⟩
  ·refine .inl ?_
   unfold Oper.wp at *
   rw [e1]
   generalize (execOp a.eval o).run P w = r at *
   cases r with
   | ok n w' =>
    cases n <;> simp only [Oper.upon] at h ⊢
    case value u => rw [put_pt _ _ _ _ hd]; exact h
    case skip => rw [put_pt _ _ _ _ hd]; exact h
    case defer d =>
     have : ∀ E : List Fl, ({ pt a E with defers := d :: (pt a E).defers } : Act) = pt { a with defers := d :: a.defers } E := fun E => by
      induction E with
      | nil => rfl
      | cons e E ih => rw [pt, pt, Act.put_defers, ih]
     have h2 : ∀ b : Act, ({ b.put o.dst undef with defers := d :: (b.put o.dst undef).defers } : Act) = ({ b with defers := d :: b.defers } : Act).put o.dst undef := fun b => Act.put_defers b _ _ _
     revert h
     simp only [this, put_pt _ _ _ _ hd]
     exact fun h => h
    case enter f args =>
     refine h.mono fun e w'' he => ?_
     cases e with
     | returned u => show G ((pt a E).put o.dst u) w''; rw [put_pt _ _ _ _ hd]; exact he
     | panicked c => exact hQE _ _ _ he E
     | outgrown => exact he
    case row row args => exact h.mono fun u w'' he => by show G ((pt a E).put o.dst u) w''; rw [put_pt _ _ _ _ hd]; exact he
   | halt x w' =>
    cases x <;> simp only [Oper.upon] at h ⊢
    case panic u => exact hQE _ _ _ h E
  ·exact .inr ⟨by unfold Oper.asks at *; rw [e1]; exact hasks, hlets⟩
 ·rename_i hw
  rw [if_neg hw] at h
  rw [put_pt _ _ _ _ hd]; exact h
structure Lst (ops : Array Oper) (lc : Array Bool) (E : List Fl) (ls : Array Bool) : Prop where
 s1 : ls.size = ops.size
 s2 : lc.size = ops.size
 get : ∀ j, ls.getD j false = (lc.getD j false || (E.map Fl.i).contains j)
theorem getD_set_self {ls : Array Bool} {i : Nat} (h : i < ls.size) : (ls.setIfInBounds i true).getD i false = true := by simp [h]
theorem Lst.set {lc ls : Array Bool} {E : List Fl} {k : Nat} (h : Lst ops lc E ls) (hk : k < ops.size) : Lst ops (lc.setIfInBounds k true) E (ls.setIfInBounds k true) := by
 refine ⟨by simp [h.s1], by simp [h.s2], fun j => ?_⟩
 by_cases hkj : k = j
 ·subst hkj
  rw [getD_set_self (by rw [h.s1]; exact hk), getD_set_self (by rw [h.s2]; exact hk)]; rfl
 ·rw [getD_set_ne false hkj, getD_set_ne false hkj]; exact h.get j
theorem Lst.add {lc ls : Array Bool} {E : List Fl} {e : Fl} (h : Lst ops lc E ls) (hk : e.i < ops.size) : Lst ops lc (e :: E) (ls.setIfInBounds e.i true) := by
 refine ⟨by simp [h.s1], h.s2, fun j => ?_⟩
 by_cases hkj : e.i = j
 ·subst hkj
  rw [getD_set_self (by rw [h.s1]; exact hk)]; simp
 ·rw [getD_set_ne false hkj, h.get j]
  simp [Ne.symm hkj]
theorem Lst.take {lc ls : Array Bool} {E E' : List Fl} {e : Fl} (h : Lst ops lc E ls) (hp : E.Perm (e :: E')) (hk : e.i < ops.size) : Lst ops (lc.setIfInBounds e.i true) E' ls := by
 refine ⟨h.s1, by simp [h.s2], fun j => ?_⟩
 have hc : (E.map Fl.i).contains j = ((e :: E').map Fl.i).contains j := by
  rw [Bool.eq_iff_iff, List.contains_iff_mem, List.contains_iff_mem]
  exact (hp.map Fl.i).mem_iff
 rw [h.get j, hc]
 by_cases hkj : e.i = j
 ·subst hkj
  rw [getD_set_self (by rw [h.s2]; exact hk)]; simp
 ·rw [getD_set_ne false hkj]
  simp [Ne.symm hkj]
theorem setAll_get : ∀ (l : List Nat) (ls : Array Bool) (j : Nat), j < ls.size → (setAll ls l).getD j false = (ls.getD j false || l.contains j)
 | [], ls, j, _ => by simp [setAll]
 | k :: l, ls, j, hj => by
  rw [setAll, setAll_get l _ j (by simpa using hj)]
  by_cases hkj : k = j
  ·subst hkj; rw [getD_set_self hj]; simp
  ·rw [getD_set_ne false hkj]; simp [Ne.symm hkj]
theorem setAll_size : ∀ (l : List Nat) (ls : Array Bool), (setAll ls l).size = ls.size
 | [], _ => rfl
 | k :: l, ls => by rw [setAll, setAll_size l]; simp
theorem Lst.ready {lc ls : Array Bool} {E : List Fl} {rem : List Nat} {j : Nat} (h : Lst ops lc E ls) (hE : ∀ e ∈ E, e.i ∈ rem) (hj : j ∈ Region.ready .any ops ls) :
  (j ∈ Region.ready .any ops (setAll lc rem) ∨ j ∈ rem) ∧ j ∉ E.map Fl.i ∧ lc.getD j false = false := by
 obtain ⟨hun, o, ho, hall⟩ := mem_ready.1 hj
 have hjl : j < ops.size := (Array.getElem?_eq_some_iff.1 ho).1
 have h1 := h.get j
 rw [getD_both hun] at h1
 have h2 := Bool.or_eq_false_iff.1 h1.symm
 refine ⟨?_, fun hm => ?_, h2.1⟩
 ·by_cases hjr : j ∈ rem
  ·exact .inr hjr
  ·refine .inl (mem_ready.2 ⟨getD_in (by rw [setAll_size, h.s2]; exact hjl) ?_, o, ho, fun e he hb => ?_⟩)
   ·rw [setAll_get _ _ _ (by rw [h.s2]; exact hjl), h2.1]; simpa using hjr
   ·have h3 := hall e he hb
    rw [h.get] at h3
    rcases Bool.or_eq_true_iff.1 h3 with h4 | h4
    ·have hlt : e.on < lc.size := by
      rcases Nat.lt_or_ge e.on lc.size with h' | h'
      ·exact h'
      ·simp [Array.getElem?_eq_none h'] at h4
     rw [setAll_get _ _ _ hlt, h4]; rfl
    ·rw [List.contains_iff_mem] at h4
     obtain ⟨e', he', hi⟩ := List.mem_map.1 h4
     have hrem := hE e' he'
     rw [hi] at hrem
     have hlt : e.on < lc.size := by
      rw [h.s2]
      rcases Nat.lt_or_ge e.on ops.size with h' | h'
      ·exact h'
      ·rw [← h.get] at h3
       have : ls.size ≤ e.on := by rw [h.s1]; exact h'
       simp [Array.getElem?_eq_none this] at h3
     rw [setAll_get _ _ _ hlt]; simp [hrem]
 ·have : (E.map Fl.i).contains j = true := by rw [List.contains_iff_mem]; exact hm
  rw [this] at h2; cases h2.2
theorem Lst.own {lc ls : Array Bool} {E : List Fl} {k : Nat} (h : Lst ops lc E ls) (hk : k ∈ Region.ready .any ops lc) (hn : k ∉ E.map Fl.i) : k ∈ Region.ready .any ops ls := by
 obtain ⟨hun, o, ho, hall⟩ := mem_ready.1 hk
 have hkl : k < ops.size := (Array.getElem?_eq_some_iff.1 ho).1
 refine mem_ready.2 ⟨getD_in (by rw [h.s1]; exact hkl) ?_, o, ho, fun e he hb => by rw [h.get, hall e he hb]; rfl⟩
 rw [h.get, getD_both hun]
 have : (E.map Fl.i).contains k = false := by
  rw [← Bool.not_eq_true, List.contains_iff_mem]; exact hn
 rw [this]; rfl
theorem Lst.un {lc ls : Array Bool} {E : List Fl} {k : Nat} (h : Lst ops lc E ls) (hk : ls.getD k true = false) : lc.getD k true = false := by
 have h1 := h.get k
 rw [getD_both hk] at h1
 have hlt : k < lc.size := by
  rcases Nat.lt_or_ge k ls.size with h' | h'
  ·rw [h.s2, ← h.s1]; exact h'
  ·simp [Array.getElem?_eq_none h'] at hk
 exact getD_in hlt (Bool.or_eq_false_iff.1 h1.symm).1
structure Ctx (P : Program) (ops : Array Oper) (pre hd hq : List Nat) (tl : List (Nat × Nat)) : Prop where
 sel : Region.noSelect ops = true
 cov : ∀ j, j < ops.size → j ∈ pre ∨ j ∈ hd ∨ j ∈ floats tl ∨ j ∈ wraps tl
 hw : ∀ j ∈ hd, j ∉ wraps tl
 fw : ∀ j ∈ floats tl, j ∉ wraps tl
 hf : ∀ j ∈ hd, j ∉ floats tl
 pf : ∀ j ∈ pre, j ∉ floats tl
 op : ∀ i ∈ floats tl, floatB P .any ops i = true
 ap : ∀ i ∈ floats tl, ∀ oi, ops[i]? = some oi → ∀ k ok, ops[k]? = some ok → k ≠ i → k ∉ pre → (∀ e ∈ ok.after, Region.binds .any e = true → e.on ≠ i) → oi.apart ops ok = true
 ch : hd = [] ∨ (chainL .any ops hq (wraps tl) = true ∨ wraps tl = [])
theorem Ctx.chn {pre hd hq : List Nat} {tl : List (Nat × Nat)} (cx : Ctx P ops pre hd hq tl) {k : Nat} (hk : k ∈ hd) : chainL .any ops hq (wraps tl) = true ∨ wraps tl = [] := by
 rcases cx.ch with h | h
 ·rw [h] at hk; cases hk
 ·exact h
theorem floatB_spec {i : Nat} (h : floatB P .any ops i = true) : ∃ o d D, ops[i]? = some o ∧ mkD P o = some D ∧ o.guard = none ∧ o.dst = some d ∧ ∀ e ∈ o.after, Region.binds .any e = false := by
 unfold floatB at h
 split at h
 ·rename_i o ho
  simp only [Bool.and_eq_true, Array.all_eq_true_iff_forall_mem, Bool.not_eq_true'] at h
  obtain ⟨⟨⟨h1, h2⟩, h3⟩, h4⟩ := h
  obtain ⟨D, hD⟩ := Option.isSome_iff_exists.1 h1
  obtain ⟨d, hd⟩ := Option.isSome_iff_exists.1 h3
  exact ⟨o, d, D, ho, hD, by simpa using h2, hd, h4⟩
 ·cases h
theorem run_alloc {o : Oper} {T : TypeId} {inf : TypeInfo} {z : Value} (ho : o.op = .alloc T) (hi : P.info? T = some inf) (hz : inf.zero = some z) (ev : Operand → Value) (w : World) :
  (execOp ev o).run P w = .ok (.value (.pointer (some ⟨w.heap.size, 0, none⟩))) (w.alloc (.cells z.cells T)) := by
 unfold execOp
 simp only [ho, Instr.alloc, Sem.run_bind, run_zeroValue hi hz, Result.andThen_ok]
 rfl
theorem vs_plains : ∀ {cs : List CV} {xs : List Value}, plains cs = some xs → cs = vs xs
 | [], xs, h => by simp [plains] at h; subst h; rfl
 | .v x :: cs, xs, h => by
  simp only [plains] at h
  split at h
  ·rename_i l hl
   cases h
   rw [vs_plains hl]; rfl
  ·cases h
 | .any :: _, _, h => by simp [plains] at h
 | .lp .. :: _, _, h => by simp [plains] at h
 | .sl .. :: _, _, h => by simp [plains] at h
structure MkOk (P : Program) (o : Oper) (D : MkD) : Prop where
 run : ∀ (a : Act) (w : World), (execOp a.eval o).run P w = .ok (.value (D.val w.heap.size)) (w.alloc (.cells D.cells D.T))
 ent : ∀ (ρ : List Loc) (S : Nat → Prop) (w : World) (i b : Nat), ρ[i]? = some ⟨b, D.cap⟩ → w.heap[b]? = some (.cells D.cells D.T (0, 0)) → EntOk ρ S w i D.ent
 entb : ∀ (ρ : List Loc) (i : Nat), entB ρ i D.ent = fun b => (ρ[i]?).map Loc.b = some b
 rel : ∀ (ρ : List Loc) (i b : Nat), ρ[i]? = some ⟨b, D.cap⟩ → (D.av i).rel ρ (D.val b)
theorem mkD_ok {o : Oper} {D : MkD} (h : mkD P o = some D) : MkOk P o D := by
 unfold mkD at h
 split at h
 ·rename_i T hT
  split at h
  ·rename_i inf hi
   split at h
   ·rename_i z hz
    cases h
    exact ⟨fun a w => run_alloc hT hi hz a.eval w, fun ρ S w i b hl hb => ⟨⟨b, 0⟩, z.cells, hl, hb, cellsV_rel _ z⟩, fun ρ i => rfl, fun ρ i b hl => ⟨⟨b, 0⟩, hl, rfl⟩⟩
   ·cases h
  ·cases h
 ·rename_i T len parts hT
  split at h
  ·rename_i e hu
   split at h
   ·rename_i inf hi
    split at h
    ·rename_i z hz
     split at h
     ·rename_i hall
      split at h
      ·rename_i cs hb hf
       split at h
       ·rename_i xs hx
        cases h
        have hcl : cs.length = len * inf.size := by rw [fillC_len hf, anys_len]
        have hlm : len ≤ maxLen := by have := Nat.le_of_ble_eq_true hb; simp only [maxLen]; omega
        have hcs := vs_plains hx
        have hxl : xs.length = len * inf.size := by rw [← hcl, hcs]; simp [vs_eq]
        refine ⟨fun a w => ?_, fun ρ S w i b hl hbk => ⟨⟨b, len⟩, xs.toArray, hl, hbk, hcl, Nat.le_refl _, hlm, by simp; exact hxl, ?_⟩, fun ρ i => rfl, fun ρ i b hl => ⟨⟨b, len⟩, hl, rfl⟩⟩
        ·obtain ⟨arr, hrel, hrun⟩ := buildSlice_run hT hu hi hz hb hf [] w ⟨#[], []⟩ trivial
         have harr := plains_rel hx hrel
         have he : execOp a.eval o = execOp (Act.eval ⟨#[], []⟩) o := execOp_congr o (fun cs b e => by rw [hT] at e; cases e) fun x hx2 => by
          rw [hT] at hx2
          have hx3 : x ∈ (parts.toList.map (·.2)) := by simpa [Op.operands] using hx2
          obtain ⟨q, hq, rfl⟩ := List.mem_map.1 hx3
          have := List.all_eq_true.1 hall q hq
          cases hq2 : q.2 with
          | const v => rfl
          | tmp t => rw [hq2] at this; cases this
          | global g => rw [hq2] at this; cases this
          | func f => rw [hq2] at this; cases this
         rw [he, hrun]
         have ha : arr = xs.toArray := by apply Array.ext'; simpa using harr
         rw [ha]
        ·rw [hcs, List.take_of_length_le (by simp; omega)]
         exact RelL_vs _ _
       ·cases h
      ·cases h
     ·cases h
    ·cases h
   ·cases h
  ·cases h
 ·cases h
theorem make_ahead {pre hd hq : List Nat} {tl : List (Nat × Nat)} (cx : Ctx P ops pre hd hq tl) {ρ : List Loc} {S : Nat → Prop} {H : List Ent} {w : World} {base i : Nat} {a : Act} {E : List Fl} {G : Act → World → Prop} {Q : Exit → Act → World → Prop} (hi : i ∈ floats tl) (hs : Sat ρ S H w) (hb : base ≤ w.heap.size)
  (hE : ∀ e ∈ E, Hid P ops ρ S H w base e)
  (next : ∀ (e : Fl) (w' : World), e.i = i → (∃ o, ops[i]? = some o ∧ o.dst = some e.d) → Sat ρ S H w' → Ev ρ S H w ρ S H w' → (∀ e' ∈ e :: E, Hid P ops ρ S H w' base e') → (∀ e' ∈ E, e'.b ≠ e.b) → G (pt a (e :: E)) w') : wpOp P ops Q i G (pt a E) w := by
 obtain ⟨o, d, D, ho, hmk, hg, hd, _⟩ := floatB_spec (cx.op i hi)
 have hok := mkD_ok hmk
 have hwant : Region.wanted o (yielded ops (pt a E).tmps) = true := by unfold Region.wanted; rw [hg]
 unfold wpOp
 simp only [ho]
 rw [if_pos hwant]
 refine .inl ?_
 unfold Oper.wp
 rw [hok.run]
 have hold : ∀ k, k < w.heap.size → (w.alloc (.cells D.cells D.T)).heap[k]? = w.heap[k]? := fun k hk => by
  show (w.heap.push _)[k]? = _
  rw [Array.getElem?_push, if_neg (by omega)]
 have hs' : Sat ρ S H (w.alloc (.cells D.cells D.T)) := ⟨hs.len, fun j e he => by
   have := (hs.ent j e he).move (w' := w.alloc (.cells D.cells D.T)) [] (fun b hb => hold b (hs.blk_lt he hb)) fun b hb => hold b (hs.low b hb)
   simpa using this, hs.inj, hs.out, fun b hb => by show b < (w.heap.push _).size; have := hs.low b hb; simp; omega⟩
 have hev : Ev ρ S H w ρ S H (w.alloc (.cells D.cells D.T)) := ⟨⟨[], by simp⟩, rfl, rfl, rfl, by show _ ≤ (w.heap.push _).size; simp, fun b hb _ => hold b hb, fun _ h => .inl h, fun _ h => .inl h⟩
 have hnew : Hid P ops ρ S H (w.alloc (.cells D.cells D.T)) base ⟨i, d, w.heap.size, D.val w.heap.size⟩ := by
  refine ⟨⟨o, D, ho, hmk, hg, hd, rfl, heap_alloc_new w _⟩, fun hS => ?_, fun hm => ?_, hb⟩
  ·exact Nat.lt_irrefl _ (hs.low _ hS)
  ·obtain ⟨j, e, he, heb⟩ := hm
   exact Nat.lt_irrefl _ (hs.blk_lt he heb)
 have hn := next ⟨i, d, w.heap.size, D.val w.heap.size⟩ _ rfl ⟨o, ho, hd⟩ hs' hev (fun e' he' => by
  cases he' with
  | head => exact hnew
  | tail _ he' => exact (hE e' he').step hev) fun e' he' => by
   have := (hE e' he').lt
   show e'.b ≠ w.heap.size
   omega
 show G ((pt a E).put o.dst _) _
 rw [hd]
 exact hn
theorem known {ρ0 ρ : List Loc} {S0 S : Nat → Prop} {H0 H : List Ent} {w0 w : World} {e : Fl} (hs : Sat ρ S H w) (hev : Ev ρ0 S0 H0 w0 ρ S H w) (he : Hid P ops ρ S H w w0.heap.size e) {o : Oper} {D : MkD} (hok : MkOk P o D) (hb : w.heap[e.b]? = some (.cells D.cells D.T (0, 0))) :
  Sat (ρ ++ [⟨e.b, D.cap⟩]) S (H ++ [D.ent]) w ∧ Ev ρ0 S0 H0 w0 (ρ ++ [⟨e.b, D.cap⟩]) S (H ++ [D.ent]) w := by
 have hcase : ∀ (i : Nat) (f : Ent), (H ++ [D.ent])[i]? = some f → (i < H.length ∧ H[i]? = some f) ∨ (i = H.length ∧ f = D.ent) := fun i f hf => by
  by_cases hi : i < H.length
  ·rw [List.getElem?_append_left hi] at hf; exact .inl ⟨hi, hf⟩
  ·have hi2 : i = H.length := by
    have := (List.getElem?_eq_some_iff.1 hf).1
    simp at this; omega
   subst hi2
   simp at hf
   exact .inr ⟨rfl, hf.symm⟩
 have hb2 : ∀ (i : Nat) (f : Ent) (b : Nat), (H ++ [D.ent])[i]? = some f → entB (ρ ++ [⟨e.b, D.cap⟩]) i f b → (H[i]? = some f ∧ entB ρ i f b) ∨ (i = H.length ∧ b = e.b) := fun i f b hf hfb => by
  rcases hcase i f hf with ⟨hi, hf'⟩ | ⟨rfl, rfl⟩
  ·rw [entB_pre _ (by rw [hs.len]; exact hi)] at hfb
   exact .inl ⟨hf', hfb⟩
  ·refine .inr ⟨rfl, ?_⟩
   rw [hok.entb, ← hs.len] at hfb
   simp at hfb
   exact hfb.symm
 refine ⟨⟨by simp [hs.len], fun i f hf => ?_, fun i j f g b hf hg hfb hgb => ?_, fun b ⟨i, f, hf, hfb⟩ hS => ?_, hs.low⟩, ⟨?_, hev.os, hev.tape, hev.output, hev.size, hev.keep, hev.imm, fun b ⟨i, f, hf, hfb⟩ => ?_⟩⟩
 ·rcases hcase i f hf with ⟨hi, hf'⟩ | ⟨rfl, rfl⟩
  ·exact (hs.ent i f hf').move [⟨e.b, D.cap⟩] (fun _ _ => rfl) fun _ _ => rfl
  ·exact hok.ent _ _ _ _ e.b (by rw [← hs.len]; simp) hb
 ·rcases hb2 i f b hf hfb with ⟨a1, a2⟩ | ⟨a1, a2⟩ <;> rcases hb2 j g b hg hgb with ⟨b1, b2⟩ | ⟨b1, b2⟩
  ·exact hs.inj i j f g b a1 b1 a2 b2
  ·exact absurd ⟨i, f, a1, b2 ▸ a2⟩ he.m
  ·exact absurd ⟨j, g, b1, a2 ▸ b2⟩ he.m
  ·omega
 ·rcases hb2 i f b hf hfb with ⟨a1, a2⟩ | ⟨_, a2⟩
  ·exact hs.out b ⟨i, f, a1, a2⟩ hS
  ·exact he.s (a2 ▸ hS)
 ·obtain ⟨t, ht⟩ := hev.pre
  exact ⟨t ++ [⟨e.b, D.cap⟩], by rw [ht, List.append_assoc]⟩
 ·rcases hb2 i f b hf hfb with ⟨a1, a2⟩ | ⟨_, a2⟩
  ·exact hev.own b ⟨i, f, a1, a2⟩
  ·exact .inr (a2 ▸ he.lo)
theorem off_of {pre hd hq : List Nat} {tl : List (Nat × Nat)} (cx : Ctx P ops pre hd hq tl) {ρ : List Loc} {S : Nat → Prop} {H : List Ent} {w : World} {base : Nat} {E : List Fl} {k : Nat} {o : Oper} {lc : Array Bool} (ho : ops[k]? = some o) (hk : k ∈ Region.ready .any ops lc) (hpre : ∀ j ∈ pre, lc.getD j false = true)
  (hEf : ∀ e ∈ E, e.i ∈ floats tl ∧ lc.getD e.i false = false ∧ e.i ≠ k) (hE : ∀ e ∈ E, Hid P ops ρ S H w base e) : ∀ e ∈ E, Off ops o e := fun e he => by
 obtain ⟨hun, o', ho', hall⟩ := mem_ready.1 hk
 obtain rfl : o' = o := Option.some.inj (ho'.symm.trans ho)
 obtain ⟨oi, D, hoi, _, _, hdst, _⟩ := (hE e he).op
 have hf := hEf e he
 have hap := cx.ap e.i hf.1 oi hoi k o' ho (Ne.symm hf.2.2) (fun hp => by have := hpre k hp; rw [getD_both hun] at this; cases this) fun x hx hb hon => by
  have := hall x hx hb
  rw [hon, hf.2.1] at this; cases this
 obtain ⟨h1, h2, _⟩ := Oper.apart_spec hap
 exact ⟨h1 e.d hdst, h2 e.d hdst⟩
theorem pt_perm (a : Act) {E E' : List Fl} (h : E.Perm E') (hd : (E.map Fl.d).Nodup) : pt a E = pt a E' := by
 induction h with
 | nil => rfl
 | cons e _ ih => rw [pt, pt, ih (List.nodup_cons.1 hd).2]
 | swap e f E =>
  rw [pt, pt, pt, pt]
  refine Act.put_comm _ _ _ fun d hd' heq => ?_
  have h1 := Option.some.inj hd'
  have h2 := Option.some.inj heq
  have h3 := (List.nodup_cons.1 hd).1
  exact h3 (by simp; exact .inl (by rw [h1, h2]))
 | trans h1 _ ih1 ih2 => rw [ih1 hd, ih2 ((h1.map Fl.d).nodup_iff.1 hd)]
structure Mid (P : Program) (ops : Array Oper) (pre : List Nat) (tl : List (Nat × Nat)) (rem : List Nat) (w0 : World) (lc : Array Bool) (E : List Fl) (ls : Array Bool) (ρ : List Loc) (S : Nat → Prop) (H : List Ent) (w : World) : Prop where
 lst : Lst ops lc E ls
 pre : ∀ j ∈ pre, lc.getD j false = true
 sub : ∀ e ∈ E, e.i ∈ rem
 ndi : (E.map Fl.i).Nodup
 ndd : (E.map Fl.d).Nodup
 ndb : (E.map Fl.b).Nodup
 rf : ∀ i ∈ rem, i ∈ floats tl ∧ lc.getD i false = false
 ndr : rem.Nodup
 hid : ∀ e ∈ E, Hid P ops ρ S H w w0.heap.size e
theorem nodup_len : ∀ {a b : List Nat}, a.Nodup → (∀ x ∈ a, x ∈ b) → a.length ≤ b.length
 | [], _, _, _ => by simp
 | x :: a, b, h, hs => by
  have hx := hs x (by simp)
  have h1 := List.nodup_cons.1 h
  have := nodup_len (a := a) (b := b.erase x) h1.2 fun y hy => (List.mem_erase_of_ne (fun e => h1.1 (by rw [← e]; exact hy))).2 (hs y (by simp [hy]))
  rw [List.length_erase_of_mem hx] at this
  have := List.length_pos_of_mem hx
  simp; omega
theorem Mid.len {pre rem : List Nat} {tl : List (Nat × Nat)} {w0 w : World} {lc ls : Array Bool} {E : List Fl} {ρ : List Loc} {S : Nat → Prop} {H : List Ent} (m : Mid P ops pre tl rem w0 lc E ls ρ S H w) : E.length ≤ rem.length := by
 have := nodup_len (b := rem) m.ndi fun x hx => by
  obtain ⟨e, he, rfl⟩ := List.mem_map.1 hx
  exact m.sub e he
 simpa using this
theorem Ctx.dne {pre hd hq : List Nat} {tl : List (Nat × Nat)} (cx : Ctx P ops pre hd hq tl) {i j : Nat} (hi : i ∈ floats tl) (hj : j ∈ floats tl) (hij : i ≠ j) {oi oj : Oper} (h1 : ops[i]? = some oi) (h2 : ops[j]? = some oj) {d e : Nat} (hd1 : oi.dst = some d) (he : oj.dst = some e) : d ≠ e := by
 obtain ⟨oj', _, _, hoj', _, _, _, haft⟩ := floatB_spec (cx.op j hj)
 obtain rfl := Option.some.inj (hoj'.symm.trans h2)
 have hap := cx.ap i hi oi h1 j oj' h2 (Ne.symm hij) (fun hp => cx.pf j hp hj) fun x hx hb => by rw [haft x hx] at hb; cases hb
 have := (Oper.apart_spec hap).2.1 d hd1
 intro heq
 exact this (by rw [heq]; exact he)
theorem Mid.step {pre rem : List Nat} {tl : List (Nat × Nat)} {w0 w w1 : World} {lc ls : Array Bool} {E : List Fl} {ρ ρ1 : List Loc} {S S1 : Nat → Prop} {H H1 : List Ent} (m : Mid P ops pre tl rem w0 lc E ls ρ S H w) {k : Nat} (hk : k < ops.size) (hkr : k ∉ rem) (hev : Ev ρ S H w ρ1 S1 H1 w1) :
  Mid P ops pre tl rem w0 (lc.setIfInBounds k true) E (ls.setIfInBounds k true) ρ1 S1 H1 w1 :=
 ⟨m.lst.set hk, fun j hj => getD_set_true (m.pre j hj), m.sub, m.ndi, m.ndd, m.ndb, fun i hi => ⟨(m.rf i hi).1, by rw [getD_set_ne false (show k ≠ i from fun h => hkr (h ▸ hi))]; exact (m.rf i hi).2⟩, m.ndr, fun e he => (m.hid e he).step hev⟩
theorem Mid.ahead {pre hd hq rem : List Nat} {tl : List (Nat × Nat)} (cx : Ctx P ops pre hd hq tl) {w0 w w1 : World} {lc ls : Array Bool} {E : List Fl} {ρ : List Loc} {S : Nat → Prop} {H : List Ent} (m : Mid P ops pre tl rem w0 lc E ls ρ S H w) {e : Fl} (hi : e.i ∈ rem) (hn : e.i ∉ E.map Fl.i)
  (hd : ∃ o, ops[e.i]? = some o ∧ o.dst = some e.d) (hb : ∀ e' ∈ E, e'.b ≠ e.b) (hh : ∀ e' ∈ e :: E, Hid P ops ρ S H w1 w0.heap.size e') : Mid P ops pre tl rem w0 lc (e :: E) (ls.setIfInBounds e.i true) ρ S H w1 := by
 obtain ⟨o, ho, hdst⟩ := hd
 refine ⟨m.lst.add (Array.getElem?_eq_some_iff.1 ho).1, m.pre, fun e' he' => ?_, List.nodup_cons.2 ⟨hn, m.ndi⟩, List.nodup_cons.2 ⟨fun hm => ?_, m.ndd⟩, List.nodup_cons.2 ⟨fun hm => ?_, m.ndb⟩, m.rf, m.ndr, hh⟩
 ·cases he' with
  | head => exact hi
  | tail _ he' => exact m.sub e' he'
 ·obtain ⟨e', he', hde⟩ := List.mem_map.1 hm
  obtain ⟨o', _, ho', _, _, hd', _⟩ := (m.hid e' he').op
  exact cx.dne (m.rf _ hi).1 (m.rf _ (m.sub e' he')).1 (fun heq => hn (heq ▸ List.mem_map.2 ⟨e', he', rfl⟩)) ho ho' hdst hd' hde.symm
 ·obtain ⟨e', he', hbe⟩ := List.mem_map.1 hm
  exact hb e' he' hbe
theorem Mid.others {pre hd hq rem : List Nat} {tl : List (Nat × Nat)} (cx : Ctx P ops pre hd hq tl) {w0 w : World} {lc ls : Array Bool} {E : List Fl} {ρ ρ0 : List Loc} {S S0 : Nat → Prop} {H H0 : List Ent} (m : Mid P ops pre tl rem w0 lc E ls ρ S H w) {a : Act} {Q : Exit → Act → World → Prop} {G : Act → World → Prop} {i : Nat} (hs : Sat ρ S H w) (hev : Ev ρ0 S0 H0 w0 ρ S H w)
  (hi : i ∈ rem) (hn : i ∉ E.map Fl.i) (next : ∀ (e : Fl) (w1 : World), e.i = i → Sat ρ S H w1 → Ev ρ S H w ρ S H w1 → Mid P ops pre tl rem w0 lc (e :: E) (ls.setIfInBounds i true) ρ S H w1 → G (pt a (e :: E)) w1) : wpOp P ops Q i G (pt a E) w := by
 refine make_ahead cx (m.rf i hi).1 hs hev.size m.hid fun e w1 he hd hs1 hev1 hh hb => ?_
 subst he
 exact next e w1 rfl hs1 hev1 (m.ahead cx hi hn hd hb hh)
section
variable {K : Ex → List AV → List Ent → Prop} {ρ0 : List Loc} {S0 : Nat → Prop} {H0 : List Ent} {w0 : World} {dfs : List Deferred}
theorem post_put (c : List PanicEntry) (a : Act) (d : Option Nat) (v : Value) (w : World) (h : Post ρ0 S0 H0 w0 dfs K (.panic c) a w) : Post ρ0 S0 H0 w0 dfs K (.panic c) (a.put d v) w := by
 obtain ⟨ρ', S', s', H', ex, h1, h2, h3, h4, h5, h6⟩ := h
 cases ex with
 | pan c' => exact ⟨ρ', S', s', H', .pan c', h1, h2, trivial, by rw [put_defers]; exact h4, h5, h6⟩
 | normal => exact h5.elim
 | ret => exact h5.elim
 | exit n => exact h5.elim
theorem rem_le : ∀ (l : List (Nat × Nat)) (rem : List Nat) (lc : Array Bool), tlB .any ops l rem lc = true → rem.Nodup → rem.length ≤ l.length
 | [], rem, lc, h, _ => by simp [tlB] at h; rw [h.1]; simp
 | (k, q) :: l, rem, lc, h, hn => by
  match q with
  | 0 => simp only [tlB, Bool.and_eq_true] at h; have := rem_le l rem _ h.2 hn; simp; omega
  | 1 => simp only [tlB, Bool.and_eq_true] at h; have := rem_le l rem _ h.2 hn; simp; omega
  | q + 2 =>
   simp only [tlB, Bool.and_eq_true] at h
   have := rem_le l _ _ h.2 (hn.erase k)
   have h2 := List.length_erase_of_mem (a := k) (l := rem) (by simpa using h.1.1)
   simp; omega
theorem tail_any {pre hd hq : List Nat} {tl : List (Nat × Nat)} (cx : Ctx P ops pre hd hq tl) : ∀ (l : List (Nat × Nat)) (s : List AV) (H : List Ent), execT P ops l s H K → ∀ (rem : List Nat) (lc : Array Bool), tlB .any ops l rem lc = true →
  ∀ (n : Nat) (E : List Fl), n + E.length = rem.length → ∀ (ls : Array Bool) (ρ : List Loc) (S : Nat → Prop) (w : World) (a : Act), Mid P ops pre tl rem w0 lc E ls ρ S H w → Ev ρ0 S0 H0 w0 ρ S H w → a.defers = dfs → Sat ρ S H w → RelS ρ s a.tmps.toList →
   wpAny P .any ops (Post ρ0 S0 H0 w0 dfs K) (l.length - E.length) ls (pt a E) w
 | [], s, H, h, rem, lc, hB, n, E, hn, ls, ρ, S, w, a, m, hev, hdf, hs, hr => by
  simp only [tlB, Bool.and_eq_true, List.isEmpty_iff] at hB
  have hE : E = [] := by rw [hB.1] at hn; simp at hn; exact hn.2
  subst hE
  refine ⟨?_, ρ, S, s, H, .normal, hs, hev, hr, hdf, trivial, h⟩
  rw [List.eq_nil_iff_forall_not_mem]
  intro j hj
  rcases (m.lst.ready (rem := rem) m.sub hj).1 with h1 | h1
  ·rw [hB.1] at h1; rw [show setAll lc [] = lc from rfl, hB.2] at h1; cases h1
  ·rw [hB.1] at h1; cases h1
 | (k, q) :: l, s, H, h0, rem, lc, hB, n, E, hn, ls, ρ, S, w, a, m, hev, hdf, hs, hr => by
  have hp : pickK ops k fun o => wantK ops o s (fun s => tailK P o s H q fun out H' => match out with
    | .val av => putK s o.dst av fun s' => execT P ops l s' H' K
    | .vals _ => False
    | .pan c => K (.pan c) s H') (fun s => putK s o.dst (.c (.v undef)) fun s' => execT P ops l s' H K) := h0
  obtain ⟨o, ho, hq⟩ := pickK_spec hp
  clear hp
  have hkl : k < ops.size := (Array.getElem?_eq_some_iff.1 ho).1
  have hrl := rem_le _ _ _ hB m.ndr
  have hEl := m.len
  have hsel := Region.noSelect_spec cx.sel k o
  match q with
  | 0 =>
   simp only [tlB, Bool.and_eq_true, decide_eq_true_eq, Bool.not_eq_true', List.contains_iff_mem] at hB
   obtain ⟨⟨⟨hk1, hk2⟩, hk3⟩, hB⟩ := hB
   have hk1 : k ∈ Region.ready .any ops lc := by simpa using hk1
   have hk3 : k ∉ rem := by intro hm; rw [← List.contains_iff_mem] at hm; rw [hm] at hk3; cases hk3
   have hrl2 := rem_le _ _ _ hB m.ndr
   have hkE : k ∉ E.map Fl.i := fun hm => by obtain ⟨e, he, hi⟩ := List.mem_map.1 hm; exact hk3 (hi ▸ m.sub e he)
   rw [show ((k, 0) :: l).length - E.length = (l.length - E.length) + 1 by simp; omega]
   have hoff := off_of cx ho hk1 m.pre (fun e he => ⟨(m.rf _ (m.sub e he)).1, (m.rf _ (m.sub e he)).2, fun h => hk3 (h ▸ m.sub e he)⟩) m.hid
   refine ⟨fun h1 => absurd (m.lst.own hk1 hkE) (by rw [h1]; simp), fun i hi => ?_⟩
   have hrd := m.lst.ready m.sub hi
   by_cases hik : i = k
   ·subst hik
    refine op_pt ho (fun cs b => hsel cs b ho) hoff (fun c a d v w h => post_put c a d v w h) ?_
    unfold wpOp
    simp only [ho]
    rcases wantK_spec hq hr with ⟨hw, s', h', hr'⟩ | ⟨hw, s', h', hr'⟩
    ·rw [if_pos hw]
     refine .inl (step_sound (K := fun out H' => match out with
      | .val av => putK s' o.dst av fun s2 => execT P ops l s2 H' K
      | .vals _ => False
      | .pan c => K (.pan c) s' H') h' hs hr' (fun ρ1 S1 H1 w1 av v hs1 hev1 hrel hK => ?_) (fun ρ1 S1 H1 w1 c hs1 hev1 hK => ?_) fun _ _ h => h)
     ·obtain ⟨s2, hK2, hput⟩ := putK_spec hK
      have hrs : RelS ρ1 s' a.tmps.toList := by obtain ⟨t, ht⟩ := hev1.pre; rw [ht]; exact RelS_pre t hr'
      exact tail_any cx l s2 H1 hK2 rem _ hB n E hn _ ρ1 S1 w1 _ (m.step hkl hk3 hev1) (hev.trans hev1) (by rw [put_defers]; exact hdf) hs1 (hput ρ1 a v hrs hrel)
     ·exact ⟨ρ1, S1, s', H1, .pan c, hs1, hev.trans hev1, trivial, hdf, rfl, hK⟩
    ·rw [if_neg (by simp [hw])]
     obtain ⟨s2, hK2, hput⟩ := putK_spec h'
     exact tail_any cx l s2 H hK2 rem _ hB n E hn _ ρ S w _ (m.step hkl hk3 (Ev.refl _ _ _ _)) hev (by rw [put_defers]; exact hdf) hs (hput ρ a undef hr' rfl)
   ·have hir : i ∈ rem := by
     rcases hrd.1 with h1 | h1
     ·rw [hk2] at h1; simp at h1; exact absurd h1 hik
     ·exact h1
    have hEl2 : E.length + 1 ≤ rem.length := by
     have := nodup_len (b := rem) (a := i :: E.map Fl.i) (List.nodup_cons.2 ⟨hrd.2.1, m.ndi⟩) fun x hx => by
      cases hx with
      | head => exact hir
      | tail _ hx => obtain ⟨e, he, rfl⟩ := List.mem_map.1 hx; exact m.sub e he
     simpa using this
    refine m.others cx hs hev hir hrd.2.1 fun e w1 he hs1 hev1 hm1 => ?_
    have := tail_any cx ((k, 0) :: l) s H h0 rem lc (by simp only [tlB, Bool.and_eq_true, decide_eq_true_eq]; exact ⟨⟨⟨by simpa using hk1, hk2⟩, by simpa using hk3⟩, hB⟩) (n - 1) (e :: E) (by simp; omega) _ ρ S w1 a hm1 (hev.trans hev1) hdf hs1 hr
    rw [show ((k, 0) :: l).length - (e :: E).length = l.length - E.length by simp] at this
    exact this
  | 1 =>
   simp only [tlB, Bool.and_eq_true, Bool.not_eq_true', List.contains_iff_mem] at hB
   obtain ⟨⟨⟨hk1, hfr⟩, hk3⟩, hB⟩ := hB
   have hk1 : k ∈ Region.ready .any ops lc := by simpa using hk1
   have hk3 : k ∉ rem := by intro hm; rw [← List.contains_iff_mem] at hm; rw [hm] at hk3; cases hk3
   have hrl2 := rem_le _ _ _ hB m.ndr
   have hkE : k ∉ E.map Fl.i := fun hm => by obtain ⟨e, he, hi⟩ := List.mem_map.1 hm; exact hk3 (hi ▸ m.sub e he)
   rw [show ((k, 1) :: l).length - E.length = (l.length - E.length) + 1 by simp; omega]
   have hoff := off_of cx ho hk1 m.pre (fun e he => ⟨(m.rf _ (m.sub e he)).1, (m.rf _ (m.sub e he)).2, fun h => hk3 (h ▸ m.sub e he)⟩) m.hid
   have hd' : ∀ e ∈ E, o.dst ≠ some e.d := fun e he => (hoff e he).2
   have fin : ∀ (v : Value) (s2 : List AV), Yields P ops o v a → execT P ops l s2 H K → RelS ρ s2 (a.put o.dst v).tmps.toList → wpAny P .any ops (Post ρ0 S0 H0 w0 dfs K) (l.length - E.length + 1) ls (pt a E) w := fun v s2 hy hK hr2 => by
    have he := exec_pt (ops := ops) (fun cs b => hsel cs b ho) a E hoff
    refine wpAny_first ho (Region.noSelect_spec cx.sel) (fun c a w h => h.put) _ ls _ w (fun j oj hj hne hun hno => Region.free_spec ho hfr j oj hj hne (m.lst.un hun) hno) (m.lst.own hk1 hkE) (hy.of_same he.1 he.2) ?_
    rw [put_pt _ _ _ _ hd']
    exact tail_any cx l s2 H hK rem _ hB n E hn _ ρ S w _ (m.step hkl hk3 (Ev.refl _ _ _ _)) hev (by rw [put_defers]; exact hdf) hs hr2
   rcases wantK_spec hq hr with ⟨hw, s', h', hr'⟩ | ⟨hw, s', h', hr'⟩
   ·obtain ⟨av, v, hK, hrel, hrun⟩ := blind_sound (K := fun av => putK s' o.dst av fun s2 => execT P ops l s2 H K) h' hr'
    obtain ⟨s2, hK2, hput⟩ := putK_spec hK
    exact fin v s2 (.inl ⟨hw, hrun⟩) hK2 (hput ρ a v hr' hrel)
   ·obtain ⟨s2, hK2, hput⟩ := putK_spec h'
    exact fin undef s2 (.inr ⟨hw, rfl⟩) hK2 (hput ρ a undef hr' rfl)
  | q + 2 =>
   have hB0 := hB
   simp only [tlB, Bool.and_eq_true, decide_eq_true_eq, List.contains_iff_mem] at hB
   obtain ⟨⟨hk1, hk2⟩, hB⟩ := hB
   have hk1 : k ∈ rem := by simpa using hk1
   have hrl2 := rem_le _ _ _ hB (m.ndr.erase k)
   have hle := List.length_erase_of_mem hk1
   have hpos : 0 < rem.length := List.length_pos_of_mem hk1
   obtain ⟨o', d, D, ho', hmk, hg, hdst, haft⟩ := floatB_spec (cx.op k (m.rf k hk1).1)
   have hok := mkD_ok hmk
   obtain rfl : o' = o := Option.some.inj (ho'.symm.trans ho)
   have hst : ∃ s2, execT P ops l s2 (H ++ [D.ent]) K ∧ ∀ (ρ : List Loc) (a : Act) (v : Value), RelS ρ s a.tmps.toList → (D.av H.length).rel ρ v → RelS ρ s2 (a.put o'.dst v).tmps.toList := by
    have h1 : ownK P o' H fun out H' => match out with
     | .val av => putK s o'.dst av fun s' => execT P ops l s' H' K
     | .vals _ => False
     | .pan c => K (.pan c) s H' := by
     have h2 := hq
     unfold wantK at h2
     rw [hg] at h2
     exact h2
    simp only [ownK, hmk] at h1
    rw [snocK_eq, Nat.zero_add] at h1
    exact putK_spec h1
   obtain ⟨s2, hK2, hput⟩ := hst
   have mid2 : ∀ (E' : List Fl) (ls' : Array Bool) (ρ1 : List Loc) (S1 : Nat → Prop) (H1 : List Ent) (w1 : World), Lst ops (lc.setIfInBounds k true) E' ls' → (∀ e ∈ E', e ∈ E) → (E'.map Fl.i).Nodup → (E'.map Fl.d).Nodup → (E'.map Fl.b).Nodup → (∀ e ∈ E', e.i ≠ k) → (∀ e ∈ E', Hid P ops ρ1 S1 H1 w1 w0.heap.size e) →
     Mid P ops pre tl (rem.erase k) w0 (lc.setIfInBounds k true) E' ls' ρ1 S1 H1 w1 := fun E' ls' ρ1 S1 H1 w1 hl hsub h1 h2 h3b hne hh =>
    ⟨hl, fun j hj => getD_set_true (m.pre j hj), fun e he => (List.mem_erase_of_ne (hne e he)).2 (m.sub e (hsub e he)), h1, h2, h3b, fun i hi => by
     have h3 : i ∈ rem := List.mem_of_mem_erase hi
     have hne' : k ≠ i := fun h => by subst h; exact (List.Nodup.not_mem_erase m.ndr) hi
     exact ⟨(m.rf i h3).1, by rw [getD_set_ne false hne']; exact (m.rf i h3).2⟩, m.ndr.erase k, hh⟩
   by_cases hkE : k ∈ E.map Fl.i
   ·obtain ⟨e, he, hei⟩ := List.mem_map.1 hkE
    obtain ⟨E', hE'⟩ : ∃ E', E.Perm (e :: E') := by
     obtain ⟨l1, l2, rfl⟩ := List.append_of_mem he
     exact ⟨l1 ++ l2, List.perm_middle⟩
    have hh := m.hid e he
    obtain ⟨oe, De, hoe, hmke, _, hde, hptr, hheap⟩ := hh.op
    rw [hei, ho] at hoe
    obtain rfl := Option.some.inj hoe
    rw [hmk] at hmke; cases hmke
    have hkn := known hs hev hh hok hheap
    have hEmem : ∀ e' ∈ E', e' ∈ E := fun e' he' => hE'.mem_iff.2 (by simp [he'])
    have hndi := (hE'.map Fl.i).nodup_iff.1 m.ndi
    have hndd := (hE'.map Fl.d).nodup_iff.1 m.ndd
    have hndb := (hE'.map Fl.b).nodup_iff.1 m.ndb
    have hbne : ∀ e' ∈ E', ¬ mb (ρ ++ [⟨e.b, D.cap⟩]) (H ++ [D.ent]) e'.b := fun e' he' ⟨j, f, hf, hfb⟩ => by
     by_cases hj : j < H.length
     ·rw [List.getElem?_append_left hj] at hf
      rw [entB_pre _ (by rw [hs.len]; exact hj)] at hfb
      exact (m.hid e' (hEmem e' he')).m ⟨j, f, hf, hfb⟩
     ·have hj2 : j = H.length := by
       have := (List.getElem?_eq_some_iff.1 hf).1
       simp at this; omega
      subst hj2
      simp at hf
      subst hf
      rw [hok.entb, ← hs.len] at hfb
      simp at hfb
      exact (List.nodup_cons.1 hndb).1 (List.mem_map.2 ⟨e', he', hfb.symm⟩)
    have hlen : E.length = E'.length + 1 := by rw [hE'.length_eq]; rfl
    rw [show ((k, q + 2) :: l).length - E.length = l.length - E'.length by simp; omega]
    rw [pt_perm a hE' m.ndd, pt, put_pt _ _ _ _ (fun e' he' heq => (List.nodup_cons.1 hndd).1 (List.mem_map.2 ⟨e', he', (Option.some.inj heq).symm⟩))]
    have := tail_any cx l s2 _ hK2 (rem.erase k) _ hB n E' (by omega) ls _ S w (a.put (some e.d) e.ptr) (mid2 E' ls _ S _ w (by rw [← hei]; exact m.lst.take hE' (by rw [hei]; exact hkl)) hEmem (List.nodup_cons.1 hndi).2 (List.nodup_cons.1 hndd).2 (List.nodup_cons.1 hndb).2 (fun e' he' h => (List.nodup_cons.1 hndi).1 (by rw [hei, ← h]; exact List.mem_map.2 ⟨e', he', rfl⟩)) fun e' he' => by
      have h1 := m.hid e' (hEmem e' he')
      exact ⟨h1.op, h1.s, hbne e' he', h1.lo⟩) hkn.2 (by rw [put_defers]; exact hdf) hkn.1 (by
      have h1 := hput (ρ ++ [⟨e.b, D.cap⟩]) a e.ptr (RelS_pre _ hr) (by rw [hptr]; exact hok.rel _ _ e.b (by rw [← hs.len]; simp))
      rw [hde] at h1
      exact h1)
    exact this
   ·have hEk : ∀ e ∈ E, e.i ∈ rem.erase k := fun e he => (List.mem_erase_of_ne (fun h => hkE (List.mem_map.2 ⟨e, he, h⟩))).2 (m.sub e he)
    have hEl3 : E.length + 1 ≤ rem.length := by
     have := nodup_len (b := rem.erase k) m.ndi fun x hx => by obtain ⟨e, he, rfl⟩ := List.mem_map.1 hx; exact hEk e he
     simp at this; omega
    rw [show ((k, q + 2) :: l).length - E.length = (l.length - E.length) + 1 by simp; omega]
    have hkc : k ∈ Region.ready .any ops lc := mem_ready.2 ⟨getD_in (by rw [m.lst.s2]; exact hkl) (m.rf k hk1).2, o', ho, fun e he hb => by rw [haft e he] at hb; cases hb⟩
    refine ⟨fun h1 => absurd (m.lst.own hkc hkE) (by rw [h1]; simp), fun i hi => ?_⟩
    have hrd := m.lst.ready hEk hi
    have hir : i ∈ rem := by
     rcases hrd.1 with h1 | h1
     ·rw [hk2] at h1; simp at h1; rw [h1]; exact hk1
     ·exact List.mem_of_mem_erase h1
    refine m.others cx hs hev hir hrd.2.1 fun e w1 he hs1 hev1 hm1 => ?_
    have := tail_any cx ((k, q + 2) :: l) s H h0 rem lc hB0 (n - 1) (e :: E) (by simp; omega) _ ρ S w1 a hm1 (hev.trans hev1) hdf hs1 hr
    rw [show ((k, q + 2) :: l).length - (e :: E).length = l.length - E.length by simp] at this
    exact this
termination_by l _ _ _ _ _ _ n => (l.length, n)
decreasing_by all_goals (simp_wf; first | omega | (right; omega) | (left; omega))
end
section
variable {K : Ex → List AV → List Ent → Prop} {ρ0 : List Loc} {S0 : Nat → Prop} {H0 : List Ent} {w0 : World} {dfs : List Deferred}
theorem tail_C {pre hd hq : List Nat} {tl : List (Nat × Nat)} (cx : Ctx P ops pre hd hq tl) {s : List AV} {H : List Ent} (hx : execT P ops tl s H K) {lc : Array Bool} (hB : tlB .any ops tl (floats tl) lc = true) (hcov : ∀ j, j < ops.size → lc.getD j false = false → j ∈ floats tl ∨ j ∈ wraps tl) :
  ∀ (n : Nat) (E : List Fl), n + E.length = (floats tl).length → ∀ (ls : Array Bool) (ρ : List Loc) (S : Nat → Prop) (w : World) (a : Act), Mid P ops pre tl (floats tl) w0 lc E ls ρ S H w → Ev ρ0 S0 H0 w0 ρ S H w → a.defers = dfs → Sat ρ S H w → RelS ρ s a.tmps.toList →
   AnyC P ops (Post ρ0 S0 H0 w0 dfs K) (Cls ρ S H w) (wraps tl) (tl.length - E.length) ls (pt a E) w := by
 intro n
 induction n with
 | zero =>
  intro E hn ls ρ S w a m hev hdf hs hr
  have hA := tail_any cx tl s H hx (floats tl) lc hB 0 E hn ls ρ S w a m hev hdf hs hr
  have hself : Cls ρ S H w w := ⟨S, hs, Ev.refl _ _ _ _⟩
  generalize tl.length - E.length = f at hA ⊢
  cases f with
  | zero => exact ⟨fun _ => hself, hA⟩
  | succ f =>
   refine ⟨fun _ => hself, hA.1, fun i hi => ?_⟩
   have hrd := m.lst.ready m.sub hi
   have hil : i < ops.size := by obtain ⟨_, o, ho, _⟩ := mem_ready.1 hi; exact (Array.getElem?_eq_some_iff.1 ho).1
   rcases hcov i hil hrd.2.2 with h | h
   ·have : E.length + 1 ≤ (floats tl).length := by
     have := nodup_len (b := floats tl) (a := i :: E.map Fl.i) (List.nodup_cons.2 ⟨hrd.2.1, m.ndi⟩) fun x hx => by
      cases hx with
      | head => exact h
      | tail _ hx => obtain ⟨e, he, rfl⟩ := List.mem_map.1 hx; exact m.sub e he
     simpa using this
    omega
   ·exact wpOp_mono (fun a w => anyC_of h f _ a w (getD_set_self (by rw [m.lst.s1]; exact hil))) (hA.2 i hi)
 | succ n ih =>
  intro E hn ls ρ S w a m hev hdf hs hr
  have hA := tail_any cx tl s H hx (floats tl) lc hB (n + 1) E hn ls ρ S w a m hev hdf hs hr
  have hself : Cls ρ S H w w := ⟨S, hs, Ev.refl _ _ _ _⟩
  have hrl := rem_le _ _ _ hB m.ndr
  rw [show tl.length - E.length = (tl.length - (E.length + 1)) + 1 by omega] at hA ⊢
  refine ⟨fun _ => hself, hA.1, fun i hi => ?_⟩
  have hrd := m.lst.ready m.sub hi
  have hil : i < ops.size := by obtain ⟨_, o, ho, _⟩ := mem_ready.1 hi; exact (Array.getElem?_eq_some_iff.1 ho).1
  rcases hcov i hil hrd.2.2 with h | h
  ·refine m.others cx hs hev h hrd.2.1 fun e w1 he hs1 hev1 hm1 => ?_
   have := ih (e :: E) (by simp; omega) _ ρ S w1 a hm1 (hev.trans hev1) hdf hs1 hr
   exact AnyC.mono (fun w' ⟨S', h1, h2⟩ => ⟨S', h1, hev1.trans h2⟩) _ _ _ _ this
  ·exact wpOp_mono (fun a w => anyC_of h _ _ a w (getD_set_self (by rw [m.lst.s1]; exact hil))) (hA.2 i hi)
theorem Mid.inv {pre hd hq : List Nat} {tl : List (Nat × Nat)} (cx : Ctx P ops pre hd hq tl) {w : World} {lc ls : Array Bool} {E : List Fl} {ρ : List Loc} {S : Nat → Prop} {H : List Ent} (m : Mid P ops pre tl (floats tl) w0 lc E ls ρ S H w) (inv : PInv .any ops pre (wraps tl) lc) : PInv .any ops pre (wraps tl) ls := by
 have hin : ∀ j, (E.map Fl.i).contains j = true → j ∈ floats tl := fun j hj => by
  rw [List.contains_iff_mem] at hj
  obtain ⟨e, he, rfl⟩ := List.mem_map.1 hj
  exact m.sub e he
 refine ⟨m.lst.s1, fun j oj hj hl e he hb => ?_, fun t ht => ?_, fun k hk => by rw [m.lst.get, inv.pre k hk]; rfl⟩
 ·rw [m.lst.get] at hl ⊢
  rcases Bool.or_eq_true_iff.1 hl with h | h
  ·rw [inv.closed j oj hj h e he hb]; rfl
  ·obtain ⟨o', _, _, ho', _, _, _, haft⟩ := floatB_spec (cx.op j (hin j h))
   obtain rfl := Option.some.inj (ho'.symm.trans hj)
   rw [haft e he] at hb; cases hb
 ·rw [m.lst.get, inv.tl t ht]
  cases h : (E.map Fl.i).contains t with
  | false => rfl
  | true => exact absurd ht (cx.fw t (hin t h))
theorem head_C {pre hd hq : List Nat} {tl : List (Nat × Nat)} (cx : Ctx P ops pre hd hq tl) {lc2 : Array Bool} (hB2 : tlB .any ops tl (floats tl) lc2 = true) (hcov : ∀ j, j < ops.size → lc2.getD j false = false → j ∈ floats tl ∨ j ∈ wraps tl) :
  ∀ (l : List (Nat × Nat)) (s : List AV) (H : List Ent), execH P ops l s H (fun s2 H2 => execT P ops tl s2 H2 K) → ∀ (lc : Array Bool), hdB .any ops (floats tl) l lc = true → (∀ j ∈ l.map Prod.fst, j ∈ hd) → (∀ j ∈ reads l, j ∈ hq) → setAll lc (l.map Prod.fst) = lc2 → PInv .any ops pre (wraps tl) lc →
  ∀ (n : Nat) (E : List Fl), n + E.length = (floats tl).length → ∀ (ls : Array Bool) (ρ : List Loc) (S : Nat → Prop) (w : World) (a : Act), Mid P ops pre tl (floats tl) w0 lc E ls ρ S H w → Ev ρ0 S0 H0 w0 ρ S H w → a.defers = dfs → Sat ρ S H w → RelS ρ s a.tmps.toList →
   AnyC P ops (Post ρ0 S0 H0 w0 dfs K) (Cls ρ S H w) (wraps tl) (l.length + (tl.length - E.length)) ls (pt a E) w
 | [], s, H, h, lc, _, _, _, he, _, n, E, hn, ls, ρ, S, w, a, m, hev, hdf, hs, hr => by
  have he' : lc = lc2 := he
  subst he'
  rw [List.length_nil, Nat.zero_add]
  exact tail_C cx h hB2 hcov n E hn ls ρ S w a m hev hdf hs hr
 | (k, q) :: l, s, H, h0, lc, hB, hl, hlq, he, inv, n, E, hn, ls, ρ, S, w, a, m, hev, hdf, hs, hr => by
  have hp : pickK ops k fun o => wantK ops o s (fun s => headK P o s H q fun av H' => putK s o.dst av fun s' => execH P ops l s' H' (fun s2 H2 => execT P ops tl s2 H2 K)) (fun s => putK s o.dst (.c (.v undef)) fun s' => execH P ops l s' H (fun s2 H2 => execT P ops tl s2 H2 K)) := h0
  obtain ⟨o, ho, hq'⟩ := pickK_spec hp
  clear hp
  have hkl : k < ops.size := (Array.getElem?_eq_some_iff.1 ho).1
  have hself : Cls ρ S H w w := ⟨S, hs, Ev.refl _ _ _ _⟩
  have hkd : k ∈ hd := hl k (by simp)
  have hkr : k ∉ floats tl := cx.hf k hkd
  have hkE : k ∉ E.map Fl.i := fun hm => by obtain ⟨e, he, hi⟩ := List.mem_map.1 hm; exact hkr (hi ▸ m.sub e he)
  have hl' : ∀ j ∈ l.map Prod.fst, j ∈ hd := fun j hj => hl j (by simp at hj ⊢; exact .inr hj)
  have hsel := Region.noSelect_spec cx.sel k o
  have hlq' : ∀ j ∈ reads l, j ∈ hq := fun j hj => hlq j (by unfold reads at hj ⊢; rw [List.filter_cons]; split <;> simp_all)
  match q with
  | 1 =>
   have hB0 := hB
   simp only [hdB, Bool.and_eq_true] at hB
   have hrd : k ∈ Region.ready .any ops lc := by simpa using hB.1.1
   have inv' := inv.set hrd (cx.hw k hkd)
   have hoff := off_of cx ho hrd m.pre (fun e he => ⟨m.sub e he, (m.rf _ (m.sub e he)).2, fun h => hkr (h ▸ m.sub e he)⟩) m.hid
   have hd' : ∀ e ∈ E, o.dst ≠ some e.d := fun e he => (hoff e he).2
   have hex := exec_pt (ops := ops) (fun cs b => hsel cs b ho) a E hoff
   have fin : ∀ (v : Value) (s2 : List AV), YR P ops (Cls ρ S H w) o v a → execH P ops l s2 H (fun s2 H2 => execT P ops tl s2 H2 K) → RelS ρ s2 (a.put o.dst v).tmps.toList → AnyC P ops (Post ρ0 S0 H0 w0 dfs K) (Cls ρ S H w) (wraps tl) (l.length + (tl.length - E.length) + 1) ls (pt a E) w := fun v s2 hy hK hr2 => by
    refine anyC_take (fl := floats tl) ho (Region.noSelect_spec cx.sel) (fun c a w h => h.put) (cx.chn hkd) cx.cov cx.hw cx.fw hkd (hlq k (by unfold reads; simp)) _ ls _ w (m.inv cx inv) (fun j oj hj hne hun hno => Region.free_spec ho hB.1.2 j oj hj hne (m.lst.un hun) hno) (m.lst.own hrd hkE) (hy.same hex.1 hex.2) ?_
    rw [put_pt _ _ _ _ hd']
    exact head_C cx hB2 hcov l s2 H hK _ hB.2 hl' hlq' he inv' n E hn _ ρ S w _ (m.step hkl hkr (Ev.refl _ _ _ _)) hev (by rw [put_defers]; exact hdf) hs hr2
   rw [show ((k, 1) :: l).length + (tl.length - E.length) = l.length + (tl.length - E.length) + 1 by simp; omega]
   rcases wantK_spec hq' hr with ⟨hw, s', h', hr'⟩ | ⟨hw, s', h', hr'⟩
   ·obtain ⟨av, hK, hreads⟩ := read_sound (show readK P o s' H _ from h')
    split at hK
    ·rename_i hdet
     obtain ⟨v, hrun, hrel⟩ := hreads ρ S w a hs hr'
     obtain ⟨s2, hK2, hput⟩ := putK_spec hK
     refine fin v s2 (.inl ⟨hw, fun w' ⟨S', hs', _⟩ => ?_⟩) hK2 (hput ρ a v hr' hrel)
     obtain ⟨v', hrun', hrel'⟩ := hreads ρ S' w' a hs' hr'
     rw [detA_uniq hdet hrel hrel']; exact hrun'
    ·exact hK.elim
   ·obtain ⟨s2, hK2, hput⟩ := putK_spec h'
    exact fin undef s2 (.inr ⟨hw, rfl⟩) hK2 (hput ρ a undef hr' rfl)
  | q + 2 =>
   simp only [hdB, Bool.and_eq_true] at hB
   have hrd : k ∈ Region.ready .any ops lc := by simpa using hB.1.1
   have inv' := inv.set hrd (cx.hw k hkd)
   have hoff := off_of cx ho hrd m.pre (fun e he => ⟨m.sub e he, (m.rf _ (m.sub e he)).2, fun h => hkr (h ▸ m.sub e he)⟩) m.hid
   have hd' : ∀ e ∈ E, o.dst ≠ some e.d := fun e he => (hoff e he).2
   have hex := exec_pt (ops := ops) (fun cs b => hsel cs b ho) a E hoff
   have fin : ∀ (v : Value) (s2 : List AV), Yields P ops o v a → execH P ops l s2 H (fun s2 H2 => execT P ops tl s2 H2 K) → RelS ρ s2 (a.put o.dst v).tmps.toList → AnyC P ops (Post ρ0 S0 H0 w0 dfs K) (Cls ρ S H w) (wraps tl) (l.length + (tl.length - E.length) + 1) ls (pt a E) w := fun v s2 hy hK hr2 => by
    refine anyC_blind ho (Region.noSelect_spec cx.sel) (fun c a w h => h.put) (cx.hw k hkd) _ ls _ w (fun j oj hj hne hun hno => Region.free_spec ho hB.1.2 j oj hj hne (m.lst.un hun) hno) (m.lst.own hrd hkE) (hy.of_same hex.1 hex.2) ?_
    rw [put_pt _ _ _ _ hd']
    exact head_C cx hB2 hcov l s2 H hK _ hB.2 hl' hlq' he inv' n E hn _ ρ S w _ (m.step hkl hkr (Ev.refl _ _ _ _)) hev (by rw [put_defers]; exact hdf) hs hr2
   rw [show ((k, q + 2) :: l).length + (tl.length - E.length) = l.length + (tl.length - E.length) + 1 by simp; omega]
   rcases wantK_spec hq' hr with ⟨hw, s', h', hr'⟩ | ⟨hw, s', h', hr'⟩
   ·obtain ⟨av, v, hK, hrel, hrun⟩ := blind_sound (show blindK P o s' _ from h') hr'
    obtain ⟨s2, hK2, hput⟩ := putK_spec hK
    exact fin v s2 (.inl ⟨hw, hrun⟩) hK2 (hput ρ a v hr' hrel)
   ·obtain ⟨s2, hK2, hput⟩ := putK_spec h'
    exact fin undef s2 (.inr ⟨hw, rfl⟩) hK2 (hput ρ a undef hr' rfl)
  | 0 =>
   have hB0 := hB
   simp only [hdB, Bool.and_eq_true, decide_eq_true_eq] at hB
   have hrd : k ∈ Region.ready .any ops lc := by simpa using hB.1.1
   have inv' := inv.set hrd (cx.hw k hkd)
   have hoff := off_of cx ho hrd m.pre (fun e he => ⟨m.sub e he, (m.rf _ (m.sub e he)).2, fun h => hkr (h ▸ m.sub e he)⟩) m.hid
   rw [show ((k, 0) :: l).length + (tl.length - E.length) = l.length + (tl.length - E.length) + 1 by simp; omega]
   refine ⟨fun _ => hself, fun h1 => absurd (m.lst.own hrd hkE) (by rw [h1]; simp), fun i hi => ?_⟩
   have hri := m.lst.ready m.sub hi
   by_cases hik : i = k
   ·subst hik
    refine op_pt ho (fun cs b => hsel cs b ho) hoff (fun c a d v w h => post_put c a d v w h) ?_
    unfold wpOp
    simp only [ho]
    rcases wantK_spec hq' hr with ⟨hw, s', h', hr'⟩ | ⟨hw, s', h', hr'⟩
    ·rw [if_pos hw]
     refine .inl (step_sound (K := fun out H' => match out with | .val av => Nd (wkH H' H) (putK s' o.dst av fun s2 => execH P ops l s2 H' (fun s2 H2 => execT P ops tl s2 H2 K)) | _ => False) h' hs hr' (fun ρ1 S1 H1 w1 av v hs1 hev1 hrel hK => ?_) (fun _ _ _ _ _ _ _ hK => hK.elim) fun _ _ h => h)
     obtain ⟨hwk, hK⟩ := hK
     obtain ⟨s2, hK2, hput⟩ := putK_spec hK
     have hrs : RelS ρ1 s' a.tmps.toList := by obtain ⟨t, ht⟩ := hev1.pre; rw [ht]; exact RelS_pre t hr'
     exact AnyC.mono (fun w' hw' => Cls.up hs hev1 hwk hw') _ _ _ _ (head_C cx hB2 hcov l s2 H1 hK2 _ hB.2 hl' hlq' he inv' n E hn _ ρ1 S1 w1 _ (m.step hkl hkr hev1) (hev.trans hev1) (by rw [put_defers]; exact hdf) hs1 (hput ρ1 a v hrs hrel))
    ·rw [if_neg (by simp [hw])]
     obtain ⟨s2, hK2, hput⟩ := putK_spec h'
     exact head_C cx hB2 hcov l s2 H hK2 _ hB.2 hl' hlq' he inv' n E hn _ ρ S w _ (m.step hkl hkr (Ev.refl _ _ _ _)) hev (by rw [put_defers]; exact hdf) hs (hput ρ a undef hr' rfl)
   ·have hir : i ∈ floats tl := by
     rcases hri.1 with h1 | h1
     ·rw [hB.1.2] at h1; simp at h1; exact absurd h1 hik
     ·exact h1
    have hEl2 : E.length + 1 ≤ (floats tl).length := by
     have := nodup_len (b := floats tl) (a := i :: E.map Fl.i) (List.nodup_cons.2 ⟨hri.2.1, m.ndi⟩) fun x hx => by
      cases hx with
      | head => exact hir
      | tail _ hx => obtain ⟨e, he, rfl⟩ := List.mem_map.1 hx; exact m.sub e he
     simpa using this
    have hrl := rem_le _ _ _ hB2 m.ndr
    refine m.others cx hs hev hir hri.2.1 fun e w1 he1 hs1 hev1 hm1 => ?_
    have := head_C cx hB2 hcov ((k, 0) :: l) s H h0 lc hB0 hl hlq he inv (n - 1) (e :: E) (by simp; omega) _ ρ S w1 a hm1 (hev.trans hev1) hdf hs1 hr
    rw [show ((k, 0) :: l).length + (tl.length - (e :: E).length) = l.length + (tl.length - E.length) by simp; omega] at this
    exact AnyC.mono (fun w' ⟨S', h1, h2⟩ => ⟨S', h1, hev1.trans h2⟩) _ _ _ _ this
termination_by l _ _ _ _ _ _ _ _ _ n => (l.length, n)
decreasing_by all_goals (simp_wf; first | omega | (right; omega) | (left; omega))
theorem head_CC {pre hd hq : List Nat} {tl : List (Nat × Nat)} (cx : Ctx P ops pre hd hq tl) {C : World → Prop} {lc2 : Array Bool} (hB2 : tlB .any ops tl (floats tl) lc2 = true) (hcov : ∀ j, j < ops.size → lc2.getD j false = false → j ∈ floats tl ∨ j ∈ wraps tl) :
  ∀ (l : List (Nat × Nat)) (s : List AV) (H : List Ent), (∀ w, Facts H w → C w) → execC P C ops l s H (fun s2 H2 => execT P ops tl s2 H2 K) → ∀ (lc : Array Bool), hdB .any ops (floats tl) l lc = true → (∀ j ∈ l.map Prod.fst, j ∈ hd) → (∀ j ∈ reads l, j ∈ hq) → setAll lc (l.map Prod.fst) = lc2 → PInv .any ops pre (wraps tl) lc →
  ∀ (n : Nat) (E : List Fl), n + E.length = (floats tl).length → ∀ (ls : Array Bool) (ρ : List Loc) (S : Nat → Prop) (w : World) (a : Act), Mid P ops pre tl (floats tl) w0 lc E ls ρ S H w → Ev ρ0 S0 H0 w0 ρ S H w → a.defers = dfs → Sat ρ S H w → RelS ρ s a.tmps.toList →
   AnyC P ops (Post ρ0 S0 H0 w0 dfs K) C (wraps tl) (l.length + (tl.length - E.length)) ls (pt a E) w
 | [], s, H, hC, h, lc, _, _, _, he, _, n, E, hn, ls, ρ, S, w, a, m, hev, hdf, hs, hr => by
  have he' : lc = lc2 := he
  subst he'
  rw [List.length_nil, Nat.zero_add]
  exact AnyC.mono (fun w' ⟨S', hs', _⟩ => hC w' hs'.facts) _ _ _ _ (tail_C cx h hB2 hcov n E hn ls ρ S w a m hev hdf hs hr)
 | (k, q) :: l, s, H, hC, h0, lc, hB, hl, hlq, he, inv, n, E, hn, ls, ρ, S, w, a, m, hev, hdf, hs, hr => by
  have hp : pickK ops k fun o => wantK ops o s (fun s => headC P C o s H q fun av H' => putK s o.dst av fun s' => execC P C ops l s' H' (fun s2 H2 => execT P ops tl s2 H2 K)) (fun s => putK s o.dst (.c (.v undef)) fun s' => execC P C ops l s' H (fun s2 H2 => execT P ops tl s2 H2 K)) := h0
  obtain ⟨o, ho, hq'⟩ := pickK_spec hp
  clear hp
  have hkl : k < ops.size := (Array.getElem?_eq_some_iff.1 ho).1
  have hself : C w := hC w hs.facts
  have hkd : k ∈ hd := hl k (by simp)
  have hkr : k ∉ floats tl := cx.hf k hkd
  have hkE : k ∉ E.map Fl.i := fun hm => by obtain ⟨e, he, hi⟩ := List.mem_map.1 hm; exact hkr (hi ▸ m.sub e he)
  have hl' : ∀ j ∈ l.map Prod.fst, j ∈ hd := fun j hj => hl j (by simp at hj ⊢; exact .inr hj)
  have hsel := Region.noSelect_spec cx.sel k o
  have hlq' : ∀ j ∈ reads l, j ∈ hq := fun j hj => hlq j (by unfold reads at hj ⊢; rw [List.filter_cons]; split <;> simp_all)
  match q with
  | 1 =>
   have hB0 := hB
   simp only [hdB, Bool.and_eq_true] at hB
   have hrd : k ∈ Region.ready .any ops lc := by simpa using hB.1.1
   have inv' := inv.set hrd (cx.hw k hkd)
   have hoff := off_of cx ho hrd m.pre (fun e he => ⟨m.sub e he, (m.rf _ (m.sub e he)).2, fun h => hkr (h ▸ m.sub e he)⟩) m.hid
   have hd' : ∀ e ∈ E, o.dst ≠ some e.d := fun e he => (hoff e he).2
   have hex := exec_pt (ops := ops) (fun cs b => hsel cs b ho) a E hoff
   have fin : ∀ (v : Value) (s2 : List AV), YR P ops C o v a → execC P C ops l s2 H (fun s2 H2 => execT P ops tl s2 H2 K) → RelS ρ s2 (a.put o.dst v).tmps.toList → AnyC P ops (Post ρ0 S0 H0 w0 dfs K) C (wraps tl) (l.length + (tl.length - E.length) + 1) ls (pt a E) w := fun v s2 hy hK hr2 => by
    refine anyC_take (fl := floats tl) ho (Region.noSelect_spec cx.sel) (fun c a w h => h.put) (cx.chn hkd) cx.cov cx.hw cx.fw hkd (hlq k (by unfold reads; simp)) _ ls _ w (m.inv cx inv) (fun j oj hj hne hun hno => Region.free_spec ho hB.1.2 j oj hj hne (m.lst.un hun) hno) (m.lst.own hrd hkE) (hy.same hex.1 hex.2) ?_
    rw [put_pt _ _ _ _ hd']
    exact head_CC cx hB2 hcov l s2 H hC hK _ hB.2 hl' hlq' he inv' n E hn _ ρ S w _ (m.step hkl hkr (Ev.refl _ _ _ _)) hev (by rw [put_defers]; exact hdf) hs hr2
   rw [show ((k, 1) :: l).length + (tl.length - E.length) = l.length + (tl.length - E.length) + 1 by simp; omega]
   rcases wantK_spec hq' hr with ⟨hw, s', h', hr'⟩ | ⟨hw, s', h', hr'⟩
   ·obtain ⟨x, rc⟩ := (show ∃ x, ReadC P C o s' _ x from h')
    obtain ⟨s2, hK2, hput⟩ := putK_spec rc.next
    refine fin x s2 (.inl ⟨hw, fun w' hw' => ?_⟩) hK2 (hput ρ a x hr' rfl)
    rw [execOp_congr o rc.sel (ρ' := plainEv s') fun y hy => allPlain_eval hr' _ rc.plain y (Array.mem_toList_iff.2 hy)]
    exact rc.run w' hw'
   ·obtain ⟨s2, hK2, hput⟩ := putK_spec h'
    exact fin undef s2 (.inr ⟨hw, rfl⟩) hK2 (hput ρ a undef hr' rfl)
  | q + 2 =>
   simp only [hdB, Bool.and_eq_true] at hB
   have hrd : k ∈ Region.ready .any ops lc := by simpa using hB.1.1
   have inv' := inv.set hrd (cx.hw k hkd)
   have hoff := off_of cx ho hrd m.pre (fun e he => ⟨m.sub e he, (m.rf _ (m.sub e he)).2, fun h => hkr (h ▸ m.sub e he)⟩) m.hid
   have hd' : ∀ e ∈ E, o.dst ≠ some e.d := fun e he => (hoff e he).2
   have hex := exec_pt (ops := ops) (fun cs b => hsel cs b ho) a E hoff
   have fin : ∀ (v : Value) (s2 : List AV), Yields P ops o v a → execC P C ops l s2 H (fun s2 H2 => execT P ops tl s2 H2 K) → RelS ρ s2 (a.put o.dst v).tmps.toList → AnyC P ops (Post ρ0 S0 H0 w0 dfs K) C (wraps tl) (l.length + (tl.length - E.length) + 1) ls (pt a E) w := fun v s2 hy hK hr2 => by
    refine anyC_blind ho (Region.noSelect_spec cx.sel) (fun c a w h => h.put) (cx.hw k hkd) _ ls _ w (fun j oj hj hne hun hno => Region.free_spec ho hB.1.2 j oj hj hne (m.lst.un hun) hno) (m.lst.own hrd hkE) (hy.of_same hex.1 hex.2) ?_
    rw [put_pt _ _ _ _ hd']
    exact head_CC cx hB2 hcov l s2 H hC hK _ hB.2 hl' hlq' he inv' n E hn _ ρ S w _ (m.step hkl hkr (Ev.refl _ _ _ _)) hev (by rw [put_defers]; exact hdf) hs hr2
   rw [show ((k, q + 2) :: l).length + (tl.length - E.length) = l.length + (tl.length - E.length) + 1 by simp; omega]
   rcases wantK_spec hq' hr with ⟨hw, s', h', hr'⟩ | ⟨hw, s', h', hr'⟩
   ·obtain ⟨av, v, hK, hrel, hrun⟩ := blind_sound (show blindK P o s' _ from h') hr'
    obtain ⟨s2, hK2, hput⟩ := putK_spec hK
    exact fin v s2 (.inl ⟨hw, hrun⟩) hK2 (hput ρ a v hr' hrel)
   ·obtain ⟨s2, hK2, hput⟩ := putK_spec h'
    exact fin undef s2 (.inr ⟨hw, rfl⟩) hK2 (hput ρ a undef hr' rfl)
  | 0 =>
   have hB0 := hB
   simp only [hdB, Bool.and_eq_true, decide_eq_true_eq] at hB
   have hrd : k ∈ Region.ready .any ops lc := by simpa using hB.1.1
   have inv' := inv.set hrd (cx.hw k hkd)
   have hoff := off_of cx ho hrd m.pre (fun e he => ⟨m.sub e he, (m.rf _ (m.sub e he)).2, fun h => hkr (h ▸ m.sub e he)⟩) m.hid
   rw [show ((k, 0) :: l).length + (tl.length - E.length) = l.length + (tl.length - E.length) + 1 by simp; omega]
   refine ⟨fun _ => hself, fun h1 => absurd (m.lst.own hrd hkE) (by rw [h1]; simp), fun i hi => ?_⟩
   have hri := m.lst.ready m.sub hi
   by_cases hik : i = k
   ·subst hik
    refine op_pt ho (fun cs b => hsel cs b ho) hoff (fun c a d v w h => post_put c a d v w h) ?_
    unfold wpOp
    simp only [ho]
    rcases wantK_spec hq' hr with ⟨hw, s', h', hr'⟩ | ⟨hw, s', h', hr'⟩
    ·rw [if_pos hw]
     refine .inl (step_sound (K := fun out H' => match out with | .val av => Nd (∀ w, Facts H' w → C w) (putK s' o.dst av fun s2 => execC P C ops l s2 H' (fun s2 H2 => execT P ops tl s2 H2 K)) | _ => False) h' hs hr' (fun ρ1 S1 H1 w1 av v hs1 hev1 hrel hK => ?_) (fun _ _ _ _ _ _ _ hK => hK.elim) fun _ _ h => h)
     obtain ⟨hwk, hK⟩ := hK
     obtain ⟨s2, hK2, hput⟩ := putK_spec hK
     have hrs : RelS ρ1 s' a.tmps.toList := by obtain ⟨t, ht⟩ := hev1.pre; rw [ht]; exact RelS_pre t hr'
     exact head_CC cx hB2 hcov l s2 H1 hwk hK2 _ hB.2 hl' hlq' he inv' n E hn _ ρ1 S1 w1 _ (m.step hkl hkr hev1) (hev.trans hev1) (by rw [put_defers]; exact hdf) hs1 (hput ρ1 a v hrs hrel)
    ·rw [if_neg (by simp [hw])]
     obtain ⟨s2, hK2, hput⟩ := putK_spec h'
     exact head_CC cx hB2 hcov l s2 H hC hK2 _ hB.2 hl' hlq' he inv' n E hn _ ρ S w _ (m.step hkl hkr (Ev.refl _ _ _ _)) hev (by rw [put_defers]; exact hdf) hs (hput ρ a undef hr' rfl)
   ·have hir : i ∈ floats tl := by
     rcases hri.1 with h1 | h1
     ·rw [hB.1.2] at h1; simp at h1; exact absurd h1 hik
     ·exact h1
    have hEl2 : E.length + 1 ≤ (floats tl).length := by
     have := nodup_len (b := floats tl) (a := i :: E.map Fl.i) (List.nodup_cons.2 ⟨hri.2.1, m.ndi⟩) fun x hx => by
      cases hx with
      | head => exact hir
      | tail _ hx => obtain ⟨e, he, rfl⟩ := List.mem_map.1 hx; exact m.sub e he
     simpa using this
    have hrl := rem_le _ _ _ hB2 m.ndr
    refine m.others cx hs hev hir hri.2.1 fun e w1 he1 hs1 hev1 hm1 => ?_
    have := head_CC cx hB2 hcov ((k, 0) :: l) s H hC h0 lc hB0 hl hlq he inv (n - 1) (e :: E) (by simp; omega) _ ρ S w1 a hm1 (hev.trans hev1) hdf hs1 hr
    rw [show ((k, 0) :: l).length + (tl.length - (e :: E).length) = l.length + (tl.length - E.length) by simp; omega] at this
    exact this
termination_by l _ _ _ _ _ _ _ _ _ _ n => (l.length, n)
decreasing_by all_goals (simp_wf; first | omega | (right; omega) | (left; omega))
end
section quiet
variable {K : Ex → List AV → List Ent → Prop} {ρ0 : List Loc} {S0 : Nat → Prop} {H0 : List Ent} {w0 : World} {dfs : List Deferred}
def YQ (P : Program) (ops : Array Oper) (ρ : List Loc) (H : List Ent) (o : Oper) (v : Value) (a : Act) : Prop := ∀ S w, Sat ρ S H w → YieldsIn P ops (Cls ρ S H w) o v a
theorem YQ.same {ρ : List Loc} {H : List Ent} {o : Oper} {v : Value} {a a' : Act} (hy : YQ P ops ρ H o v a) (he : execOp a'.eval o = execOp a.eval o) (hw : Region.wanted o (yielded ops a'.tmps) = Region.wanted o (yielded ops a.tmps)) : YQ P ops ρ H o v a' := fun S w hs => by
 have := hy S w hs
 unfold YieldsIn Oper.quietAt at *
 rw [he, hw]
 exact this
def HeadF (P : Program) (ops : Array Oper) (ρ : List Loc) (H : List Ent) (hd fl : List Nat) (L : Array Bool → Act → Prop) : Nat → Array Bool → Act → Prop
 | 0, lc, a => L lc a
 | f + 1, lc, a => (∃ k ∈ Region.ready .any ops lc, k ∈ hd) ∧ ∀ i ∈ Region.ready .any ops lc, i ∉ fl → ∃ oi v, ops[i]? = some oi ∧ YQ P ops ρ H oi v a ∧ HeadF P ops ρ H hd fl L f (lc.setIfInBounds i true) (a.put oi.dst v)
theorem headF_take {ρ : List Loc} {H : List Ent} {pre hd : List Nat} {tl : List (Nat × Nat)} (cx : Ctx P ops pre hd hd tl) {L : Array Bool → Act → Prop} {i : Nat} {oi : Oper} {v : Value} (hi : ops[i]? = some oi) (hin : i ∈ hd)
  (hdone : ∀ lc a, L lc a → ∀ j ∈ Region.ready .any ops lc, j ∉ floats tl → j ∈ wraps tl) :
  ∀ (f : Nat) (lc : Array Bool) (a : Act), PInv .any ops pre (wraps tl) lc →
   (∀ j oj, ops[j]? = some oj → j ≠ i → lc.getD j true = false → (∀ e ∈ oj.after, Region.binds .any e = true → e.on ≠ i) → oi.apart ops oj = true) →
   i ∈ Region.ready .any ops lc → YQ P ops ρ H oi v a → HeadF P ops ρ H hd (floats tl) L f (lc.setIfInBounds i true) (a.put oi.dst v) → HeadF P ops ρ H hd (floats tl) L (f + 1) lc a := by
 have hsel := Region.noSelect_spec cx.sel
 have nt : ∀ (lc : Array Bool), PInv .any ops pre (wraps tl) lc → i ∈ Region.ready .any ops lc → ∀ j ∈ Region.ready .any ops lc, j ∉ wraps tl := fun lc inv hr j hj h => by
  have hun := (mem_ready.1 hr).1
  rcases cx.chn hin with hc | hc
  ·exact absurd hj (chain_waits hc inv hin (getD_both hun) j h)
  ·rw [hc] at h; cases h
 intro f
 induction f with
 | zero =>
  intro lc a inv _ hr hy hL
  refine ⟨⟨i, hr, hin⟩, fun j hj hjf => ?_⟩
  by_cases hji : j = i
  ·subst hji; exact ⟨oi, v, hi, hy, hL⟩
  ·exact absurd (hdone _ _ hL j (ready_mono hj hji) hjf) (nt lc inv hr j hj)
 | succ f ih =>
  intro lc a inv hfree hr hy hH
  have hun := (mem_ready.1 hr).1
  refine ⟨⟨i, hr, hin⟩, fun j hj hjf => ?_⟩
  by_cases hji : j = i
  ·subst hji; exact ⟨oi, v, hi, hy, hH⟩
  ·obtain ⟨hjun, oj', hoj', hall⟩ := mem_ready.1 hj
   obtain ⟨oj, vj, hoj, hyj, hrest⟩ := hH.2 j (ready_mono hj hji) hjf
   obtain rfl : oj' = oj := Option.some.inj (hoj'.symm.trans hoj)
   have hno : ∀ e ∈ oj'.after, Region.binds .any e = true → e.on ≠ i := fun e he hb he2 => by
    have := hall e he hb
    rw [he2, getD_both hun] at this
    cases this
   obtain ⟨h1, h2, h3⟩ := Oper.apart_spec (hfree j oj' hoj hji hjun hno)
   refine ⟨oj', vj, hoj, hyj.same (execOp_put oj' (fun cs b => hsel j oj' cs b hoj) a oi.dst v h1).symm (wanted_put oj' a oi.dst v h1).symm, ?_⟩
   refine ih (lc.setIfInBounds j true) _ (inv.set hj (nt lc inv hr j hj)) (fun k ok hk hki hun' hno' => ?_) (ready_mono hr (Ne.symm hji))
    (hy.same (execOp_put oi (fun cs b => hsel i oi cs b hi) a oj'.dst vj h3) (wanted_put oi a oj'.dst vj h3)) ?_
   ·refine hfree k ok hk hki ?_ hno'
    by_cases hjk : j = k
    ·subst hjk; exact hjun
    ·rw [getD_set_ne true hjk] at hun'; exact hun'
   ·rw [← Act.put_comm a v vj h2, Array.setIfInBounds_comm _ _ hji]; exact hrest
theorem stepQ_all {o : Oper} {s : List AV} {H : List Ent} {K : AV → Prop} (h : stepQ P o s H K) {ρ : List Loc} {a : Act} (hr : RelS ρ s a.tmps.toList) {S1 : Nat → Prop} {w1 : World} (h1 : Sat ρ S1 H w1) :
  ∃ av v, K av ∧ av.rel ρ v ∧ ∀ S w, Sat ρ S H w → ∀ w', Cls ρ S H w w' → o.quietAt P a (Cls ρ S H w) w' v := by
 unfold stepQ at h
 split at h
 ·obtain ⟨av, hK, hrd⟩ := read_sound h
  split at hK
  ·rename_i hd
   obtain ⟨v, _, hrel⟩ := hrd ρ S1 w1 a h1 hr
   refine ⟨av, v, hK, hrel, fun S w _ w' ⟨S', hs', _⟩ => ?_⟩
   obtain ⟨v', hrun, hrel'⟩ := hrd ρ S' w' a hs' hr
   have := detA_uniq hd hrel hrel'
   subst this
   unfold Oper.quietAt
   rw [hrun]
   exact ⟨rfl, rfl⟩
  ·exact hK.elim
 ·obtain ⟨f, args, hq, hcall⟩ := callK_spec (P := P) h
  obtain ⟨x, hspec, hK⟩ := hq
  rw [forceV_eq] at hK
  refine ⟨_, x, hK, rfl, fun S w _ w' ⟨S', hs', hev'⟩ => ?_⟩
  obtain ⟨vs, hvs, hrun⟩ := hcall ρ w' a hspec.ok hr
  unfold Oper.quietAt
  rw [hrun]
  refine ⟨rfl, (hspec.run ρ S' w' vs hs' hvs).mono fun e w'' ⟨ρ2, S2, H2, out, hs2, hev2, hout, ho, hH⟩ => ?_⟩
  subst ho; subst hH
  obtain ⟨v, rfl, hrel⟩ := hout
  have hvx : v = x := hrel
  subst hvx
  have hρ : ρ2 = ρ := by
   obtain ⟨t, ht⟩ := hev2.pre
   have h1 := hs2.len
   have h2 := hs'.len
   have : t = [] := by
    apply List.eq_nil_of_length_eq_zero
    rw [ht] at h1; simp at h1; omega
   rw [ht, this, List.append_nil]
  subst hρ
  exact ⟨rfl, S2, hs2, hev'.trans hev2⟩
 ·exact h.elim
theorem headF_lex {ρ : List Loc} {H : List Ent} {pre hd : List Nat} {tl : List (Nat × Nat)} (cx : Ctx P ops pre hd hd tl) {G : List AV → Prop} {lc2 : Array Bool} (hcov : ∀ j, j < ops.size → lc2.getD j false = false → j ∈ floats tl ∨ j ∈ wraps tl) {S1 : Nat → Prop} {w1 : World} (h1 : Sat ρ S1 H w1) :
  ∀ (l : List Nat) (s : List AV) (lc : Array Bool) (a : Act), execL P ops l s H G → hdB .any ops (floats tl) (l.map fun k => (k, 1)) lc = true → (∀ j ∈ l, j ∈ hd) → PInv .any ops pre (wraps tl) lc → RelS ρ s a.tmps.toList → a.defers = dfs → setAll lc l = lc2 →
   HeadF P ops ρ H hd (floats tl) (fun lc' a' => lc' = lc2 ∧ ∃ s2, G s2 ∧ RelS ρ s2 a'.tmps.toList ∧ a'.defers = dfs) l.length lc a
 | [], s, lc, a, h, _, _, _, hr, hdf, he => ⟨he, s, h, hr, hdf⟩
 | k :: l, s, lc, a, h0, hB, hl, inv, hr, hdf, he => by
  have hp : pickK ops k fun o => wantK ops o s (fun s => stepQ P o s H fun av => putK s o.dst av fun s' => execL P ops l s' H G) (fun s => putK s o.dst (.c (.v undef)) fun s' => execL P ops l s' H G) := h0
  obtain ⟨o, ho, hq'⟩ := pickK_spec hp
  clear hp
  simp only [List.map_cons, hdB, Bool.and_eq_true] at hB
  have hrd : k ∈ Region.ready .any ops lc := by simpa using hB.1.1
  have hkd : k ∈ hd := hl k (by simp)
  have inv' := inv.set hrd (cx.hw k hkd)
  have hdone : ∀ (lc' : Array Bool) (a' : Act), (lc' = lc2 ∧ ∃ s2, G s2 ∧ RelS ρ s2 a'.tmps.toList ∧ a'.defers = dfs) → ∀ j ∈ Region.ready .any ops lc', j ∉ floats tl → j ∈ wraps tl := fun lc' a' ⟨e, _⟩ j hj hjf => by
   subst e
   obtain ⟨hun, oj, hoj, _⟩ := mem_ready.1 hj
   rcases hcov j (Array.getElem?_eq_some_iff.1 hoj).1 (getD_both hun) with h | h
   ·exact absurd h hjf
   ·exact h
  have fin : ∀ (v : Value) (s2 : List AV), YQ P ops ρ H o v a → execL P ops l s2 H G → RelS ρ s2 (a.put o.dst v).tmps.toList → HeadF P ops ρ H hd (floats tl) (fun lc' a' => lc' = lc2 ∧ ∃ s2, G s2 ∧ RelS ρ s2 a'.tmps.toList ∧ a'.defers = dfs) (l.length + 1) lc a := fun v s2 hy hK hr2 =>
   headF_take cx ho hkd hdone l.length lc a inv (Region.free_spec ho hB.1.2) hrd hy
    (headF_lex cx hcov h1 l s2 _ _ hK hB.2 (fun j hj => hl j (by simp [hj])) inv' hr2 (by rw [put_defers]; exact hdf) he)
  rcases wantK_spec hq' hr with ⟨hw, s', h', hr'⟩ | ⟨hw, s', h', hr'⟩
  ·obtain ⟨av, v, hK, hrel, hq⟩ := stepQ_all h' hr' h1
   obtain ⟨s2, hK2, hput⟩ := putK_spec hK
   exact fin v s2 (fun S w hs => .inl ⟨hw, hq S w hs⟩) hK2 (hput ρ a v hr' hrel)
  ·obtain ⟨s2, hK2, hput⟩ := putK_spec h'
   exact fin undef s2 (fun S w hs => .inr ⟨hw, rfl⟩) hK2 (hput ρ a undef hr' rfl)
theorem hdB_nf {fl : List Nat} : ∀ (l : List Nat) (lc : Array Bool), hdB .any ops fl (l.map fun k => (k, 1)) lc = true → (∀ i ∈ fl, lc.getD i false = false) → (∀ k ∈ l, k ∉ fl) →
  ∀ k ∈ l, ∀ o, ops[k]? = some o → ∀ e ∈ o.after, Region.binds .any e = true → e.on ∉ fl
 | [], _, _, _, _, k, hk, _, _, _, _, _ => by cases hk
 | x :: l, lc, hB, hf, hn, k, hk, o, ho, e, he, hb => by
  simp only [List.map_cons, hdB, Bool.and_eq_true] at hB
  have hrd : x ∈ Region.ready .any ops lc := by simpa using hB.1.1
  cases hk with
  | head =>
   obtain ⟨_, o', ho', hall⟩ := mem_ready.1 hrd
   obtain rfl : o' = o := Option.some.inj (ho'.symm.trans ho)
   intro h
   have := hall e he hb
   rw [hf _ h] at this; cases this
  | tail _ hk =>
   refine hdB_nf l _ hB.2 (fun i hi => ?_) (fun k hk => hn k (by simp [hk])) k hk o ho e he hb
   rw [getD_set_ne false (show x ≠ i from fun h => hn x (by simp) (h ▸ hi))]; exact hf i hi
theorem headF_C {ρ : List Loc} {H : List Ent} {pre hd : List Nat} {tl : List (Nat × Nat)} (cx : Ctx P ops pre hd hd tl) (hnf : ∀ k ∈ hd, ∀ o, ops[k]? = some o → ∀ e ∈ o.after, Region.binds .any e = true → e.on ∉ floats tl) {lc2 : Array Bool} (hB2 : tlB .any ops tl (floats tl) lc2 = true) (hcov : ∀ j, j < ops.size → lc2.getD j false = false → j ∈ floats tl ∨ j ∈ wraps tl) :
  ∀ (f n : Nat) (E : List Fl), n + E.length = (floats tl).length → ∀ (lc ls : Array Bool) (S : Nat → Prop) (w : World) (a : Act), PInv .any ops pre (wraps tl) lc →
   HeadF P ops ρ H hd (floats tl) (fun lc' a' => lc' = lc2 ∧ ∃ s2, execT P ops tl s2 H K ∧ RelS ρ s2 a'.tmps.toList ∧ a'.defers = dfs) f lc a →
   Mid P ops pre tl (floats tl) w0 lc E ls ρ S H w → Ev ρ0 S0 H0 w0 ρ S H w → Sat ρ S H w →
   AnyC P ops (Post ρ0 S0 H0 w0 dfs K) (Cls ρ S H w) (wraps tl) (f + (tl.length - E.length)) ls (pt a E) w
 | 0, n, E, hn, lc, ls, S, w, a, _, ⟨he, s2, hx, hr, hdf⟩, m, hev, hs => by
  subst he
  rw [Nat.zero_add]
  exact tail_C cx hx hB2 hcov n E hn ls ρ S w a m hev hdf hs hr
 | f + 1, n, E, hn, lc, ls, S, w, a, inv, hH, m, hev, hs => by
  have hself : Cls ρ S H w w := ⟨S, hs, Ev.refl _ _ _ _⟩
  have hH0 := hH
  obtain ⟨⟨k, hrk, hkh⟩, hall⟩ := hH
  have hkf := cx.hf k hkh
  have hkE : k ∉ E.map Fl.i := fun hm => by obtain ⟨e, he, hi⟩ := List.mem_map.1 hm; exact hkf (hi ▸ m.sub e he)
  rw [show f + 1 + (tl.length - E.length) = f + (tl.length - E.length) + 1 by omega]
  refine ⟨fun _ => hself, fun h1 => absurd (m.lst.own hrk hkE) (by rw [h1]; simp), fun i hi => ?_⟩
  have hri := m.lst.ready m.sub hi
  by_cases hif : i ∈ floats tl
  ·have hEl2 : E.length + 1 ≤ (floats tl).length := by
    have := nodup_len (b := floats tl) (a := i :: E.map Fl.i) (List.nodup_cons.2 ⟨hri.2.1, m.ndi⟩) fun x hx => by
     cases hx with
     | head => exact hif
     | tail _ hx => obtain ⟨e, he, rfl⟩ := List.mem_map.1 hx; exact m.sub e he
    simpa using this
   have hrl := rem_le _ _ _ hB2 m.ndr
   refine m.others cx hs hev hif hri.2.1 fun e w1 he1 hs1 hev1 hm1 => ?_
   have := headF_C cx hnf hB2 hcov (f + 1) (n - 1) (e :: E) (by simp; omega) lc _ S w1 a inv hH0 hm1 (hev.trans hev1) hs1
   rw [show f + 1 + (tl.length - (e :: E).length) = f + (tl.length - E.length) by simp; omega] at this
   exact AnyC.mono (fun w' ⟨S', h1, h2⟩ => ⟨S', h1, hev1.trans h2⟩) _ _ _ _ this
  ·have hkl : i < ops.size := by
    obtain ⟨_, oj, hoj, _⟩ := mem_ready.1 hi
    exact (Array.getElem?_eq_some_iff.1 hoj).1
   have hih : i ∈ hd := by
    rcases cx.cov i hkl with h | h | h | h
    ·have := m.pre i h; rw [hri.2.2] at this; cases this
    ·exact h
    ·exact absurd h hif
    ·rcases cx.chn hkh with hc | hc
     ·exact absurd hi (chain_waits hc (m.inv cx inv) hkh (getD_both (mem_ready.1 (m.lst.own hrk hkE)).1) i h)
     ·rw [hc] at h; cases h
   have hrd : i ∈ Region.ready .any ops lc := by
    obtain ⟨_, oj, hoj, hdep⟩ := mem_ready.1 hi
    refine mem_ready.2 ⟨getD_in (by rw [m.lst.s2]; exact hkl) hri.2.2, oj, hoj, fun e he hb => ?_⟩
    have h1 := hdep e he hb
    rw [m.lst.get, Bool.or_eq_true, List.contains_iff_mem] at h1
    rcases h1 with h1 | h1
    ·exact h1
    ·obtain ⟨x, hx, hxe⟩ := List.mem_map.1 h1
     exact absurd (hxe ▸ m.sub x hx) (hnf i hih oj hoj e he hb)
   obtain ⟨o, v, ho, hy, hnext⟩ := hall i hrd hif
   have hsel := Region.noSelect_spec cx.sel i o
   have hoff := off_of cx ho hrd m.pre (fun e he => ⟨m.sub e he, (m.rf _ (m.sub e he)).2, fun h => hif (h ▸ m.sub e he)⟩) m.hid
   refine op_pt ho (fun cs b => hsel cs b ho) hoff (fun c a d v w h => post_put c a d v w h) ?_
   have hq : qOp P ops (Cls ρ S H w) i (fun a' => a' = a.put o.dst v) a := (hy S w hs).qOp ho rfl
   refine wpOp_of_qOp hself (fun a' w' hw' ha' => ?_) hq
   subst ha'
   obtain ⟨S', hs', hev'⟩ := hw'
   have := headF_C cx hnf hB2 hcov f n E hn _ _ S' w' _ (inv.set hrd (cx.hw i hih)) hnext (m.step hkl hif hev') (hev.trans hev') hs'
   exact AnyC.mono (fun w'' ⟨S'', h1, h2⟩ => ⟨S'', h1, hev'.trans h2⟩) _ _ _ _ this
termination_by f n => (f, n)
decreasing_by all_goals (simp_wf; first | omega | (right; omega) | (left; omega))
end quiet
theorem hdB_inv {fl tl : List Nat} : ∀ (l : List (Nat × Nat)) (done : List Nat) (ls : Array Bool), PInv md ops done tl ls → hdB md ops fl l ls = true → (∀ k ∈ l.map Prod.fst, k ∉ tl) → PInv md ops (done ++ l.map Prod.fst) tl (setAll ls (l.map Prod.fst))
 | [], done, ls, inv, _, _ => by simpa [setAll] using inv
 | (k, q) :: l, done, ls, inv, hB, hn => by
  have hr : k ∈ Region.ready md ops ls ∧ hdB md ops fl l (ls.setIfInBounds k true) = true := by
   match q with
   | 0 => simp only [hdB, Bool.and_eq_true] at hB; exact ⟨by simpa using hB.1.1, hB.2⟩
   | q + 1 => simp only [hdB, Bool.and_eq_true] at hB; exact ⟨by simpa using hB.1.1, hB.2⟩
  obtain ⟨_, o, ho, _⟩ := mem_ready.1 hr.1
  have hlt : k < ops.size := (Array.getElem?_eq_some_iff.1 ho).1
  have i1 := inv.set hr.1 (hn k (by simp))
  have i2 : PInv md ops (done ++ [k]) tl (ls.setIfInBounds k true) := ⟨i1.size, i1.closed, i1.tl, fun j hj => by
   rcases List.mem_append.1 hj with hj | hj
   ·exact i1.pre j hj
   ·simp at hj; subst hj
    have hlt' : j < ls.size := by rw [inv.size]; exact hlt
    simp [hlt']⟩
  have := hdB_inv l (done ++ [k]) _ i2 hr.2 (fun j hj => hn j (by simp at hj ⊢; exact .inr hj))
  simpa [setAll] using this
theorem tl_split (tl : List (Nat × Nat)) (j : Nat) : j ∈ tl.map Prod.fst ↔ j ∈ floats tl ∨ j ∈ wraps tl := by
 unfold floats wraps
 simp only [List.mem_map, List.mem_filter]
 constructor
 ·rintro ⟨x, hx, rfl⟩
  cases h : Nat.beq x.2 2 with
  | true => exact .inl ⟨x, ⟨hx, h⟩, rfl⟩
  | false => exact .inr ⟨x, ⟨hx, by rw [h]; rfl⟩, rfl⟩
 ·rintro (⟨x, ⟨hx, _⟩, rfl⟩ | ⟨x, ⟨hx, _⟩, rfl⟩) <;> exact ⟨x, hx, rfl⟩
theorem disj_spec {a b : List Nat} (h : disj a b = true) : ∀ x ∈ a, x ∉ b := fun x hx hb => by
 unfold disj at h
 have := List.all_eq_true.1 h x hx
 simp [hb] at this
theorem ord_alts {P : Program} {ops : Array Oper} (hsel : Region.noSelect ops = true) {K : Ex → List AV → List Ent → Prop} {ρ0 : List Loc} {S0 : Nat → Prop} {H0 : List Ent} {w0 : World} {dfs : List Deferred} : ∀ (t : Ord),
  (∀ (head : Bool) (s : List AV) (H : List Ent), execO P ops t head s H K → ∀ (ls : Array Bool) (n : Nat), ordB .any ops t ls n = true → ∀ (ρ : List Loc) (S : Nat → Prop) (w : World) (a : Act), Ev ρ0 S0 H0 w0 ρ S H w → a.defers = dfs → Sat ρ S H w → RelS ρ s a.tmps.toList →
   ∀ i ∈ t.keys, ∃ m, n = m + 1 ∧ wpOp P ops (Post ρ0 S0 H0 w0 dfs K) i (wpAny P .any ops (Post ρ0 S0 H0 w0 dfs K) m (ls.setIfInBounds i true)) a w) ∧
  (∀ (s : List AV) (H : List Ent), execO P ops t true s H K → ∀ (ls : Array Bool) (n : Nat), ordB .any ops t ls n = true → Region.ready .any ops ls = t.keys → ∀ (ρ : List Loc) (S : Nat → Prop) (w : World) (a : Act), Ev ρ0 S0 H0 w0 ρ S H w → a.defers = dfs → Sat ρ S H w → RelS ρ s a.tmps.toList →
   wpAny P .any ops (Post ρ0 S0 H0 w0 dfs K) n ls a w)
 | .nil => by
  refine ⟨fun _ _ _ _ _ _ _ _ _ _ _ _ _ _ _ i hi => (by cases hi), fun s H h ls n _ hr ρ S w a hev hdf hs hrel => ?_⟩
  have hK : Post ρ0 S0 H0 w0 dfs K .normal a w := ⟨ρ, S, s, H, .normal, hs, hev, hrel, hdf, trivial, h⟩
  cases n with
  | zero => exact ⟨hr, hK⟩
  | succ n => exact ⟨fun _ => hK, fun i hi => (by rw [hr] at hi; cases hi)⟩
 | .cons k sub rest => by
  have ihs := (ord_alts (P := P) hsel (K := K) (ρ0 := ρ0) (S0 := S0) (H0 := H0) (w0 := w0) (dfs := dfs) sub).2
  have ihr := (ord_alts (P := P) hsel (K := K) (ρ0 := ρ0) (S0 := S0) (H0 := H0) (w0 := w0) (dfs := dfs) rest).1
  have alts : ∀ (head : Bool) (s : List AV) (H : List Ent), execO P ops (.cons k sub rest) head s H K → ∀ (ls : Array Bool) (n : Nat), ordB .any ops (.cons k sub rest) ls n = true → ∀ (ρ : List Loc) (S : Nat → Prop) (w : World) (a : Act), Ev ρ0 S0 H0 w0 ρ S H w → a.defers = dfs → Sat ρ S H w → RelS ρ s a.tmps.toList →
   ∀ i ∈ (Ord.cons k sub rest).keys, ∃ m, n = m + 1 ∧ wpOp P ops (Post ρ0 S0 H0 w0 dfs K) i (wpAny P .any ops (Post ρ0 S0 H0 w0 dfs K) m (ls.setIfInBounds i true)) a w := by
   intro head s H h0 ls n hB ρ S w a hev hdf hs hr i hi
   have h1 : andO rest (pickK ops k fun o => wantK ops o s (fun s => stepK P o s H fun out H' => match out with
    | .val av => putK s o.dst av fun s' => execO P ops sub true s' H' K
    | .vals _ => False
    | .pan c => K (.pan c) s H') (fun s => putK s o.dst (.c (.v undef)) fun s' => execO P ops sub true s' H K)) (execO P ops rest false s H K) := h0
   cases n with
   | zero => cases hB
   | succ n =>
    simp only [ordB, Bool.and_eq_true, decide_eq_true_eq] at hB
    obtain ⟨⟨hB1, hB2⟩, hB3⟩ := hB
    have hA : (pickK ops k fun o => wantK ops o s (fun s => stepK P o s H fun out H' => match out with
     | .val av => putK s o.dst av fun s' => execO P ops sub true s' H' K
     | .vals _ => False
     | .pan c => K (.pan c) s H') (fun s => putK s o.dst (.c (.v undef)) fun s' => execO P ops sub true s' H K)) := by
     cases rest with
     | nil => exact h1
     | cons _ _ _ => exact h1.1
    rcases List.mem_cons.1 hi with rfl | hi
    ·refine ⟨n, rfl, ?_⟩
     obtain ⟨o, ho, hq⟩ := pickK_spec hA
     unfold wpOp
     simp only [ho]
     rcases wantK_spec hq hr with ⟨hw, s', h', hr'⟩ | ⟨hw, s', h', hr'⟩
     ·rw [if_pos hw]
      refine .inl (step_sound (K := fun out H' => match out with
       | .val av => putK s' o.dst av fun s2 => execO P ops sub true s2 H' K
       | .vals _ => False
       | .pan c => K (.pan c) s' H') h' hs hr' (fun ρ1 S1 H1 w1 av v hs1 hev1 hrel hK => ?_) (fun ρ1 S1 H1 w1 c hs1 hev1 hK => ?_) fun _ _ h => h)
      ·obtain ⟨s2, hK2, hput⟩ := putK_spec hK
       have hrs : RelS ρ1 s' a.tmps.toList := by obtain ⟨t, ht⟩ := hev1.pre; rw [ht]; exact RelS_pre t hr'
       exact ihs s2 H1 hK2 _ n hB2 hB1 ρ1 S1 w1 _ (hev.trans hev1) (by rw [put_defers]; exact hdf) hs1 (hput ρ1 a v hrs hrel)
      ·exact ⟨ρ1, S1, s', H1, .pan c, hs1, hev.trans hev1, trivial, hdf, rfl, hK⟩
     ·rw [if_neg (by simp [hw])]
      obtain ⟨s2, hK2, hput⟩ := putK_spec h'
      exact ihs s2 H hK2 _ n hB2 hB1 ρ S w _ hev (by rw [put_defers]; exact hdf) hs (hput ρ a undef hr' rfl)
    ·cases rest with
     | nil => cases hi
     | cons j x y => exact ihr false s H h1.2 ls (n + 1) hB3 ρ S w a hev hdf hs hr i hi
  refine ⟨alts, fun s H h ls n hB hrd ρ S w a hev hdf hs hr => ?_⟩
  have hall := alts true s H h ls n hB ρ S w a hev hdf hs hr
  cases n with
  | zero => cases hB
  | succ n =>
   refine ⟨fun e => (by rw [hrd] at e; cases e), fun i hi => ?_⟩
   rw [hrd] at hi
   obtain ⟨m, hm, hw⟩ := hall i hi
   obtain rfl : m = n := by omega
   exact hw
theorem tree_sound {P : Program} {ops : Array Oper} (hm : P.follows .mixedOrders = true) {id : Nat} {s : List AV} {H : List Ent} {K : Ex → List AV → List Ent → Prop} {pre : List Nat} {t : Ord} {n : Nat} (hB : ordsB .any ops pre t n = true)
  (next : execB P ops pre s fun s1 => execO P ops t true s1 H K) {ρ : List Loc} {S : Nat → Prop} {w : World} {a : Act} (hs : Sat ρ S H w) (hr : RelS ρ s a.tmps.toList) :
  (Code.region id ops true).wp P (Post ρ S H w a.defers K) a w := by
 simp only [ordsB, Bool.and_eq_true, decide_eq_true_eq] at hB
 obtain ⟨⟨⟨⟨hsel, hlen⟩, hpre⟩, hrd⟩, hord⟩ := hB
 refine wp_region_any hm ?_
 have e0 : wpAny P .any ops (Post ρ S H w a.defers K) ops.size = wpAny P .any ops (Post ρ S H w a.defers K) (pre.length + n) := by rw [← hlen]
 rw [e0]
 refine execB_sound hsel (fun c a d v w h => h.put) (dfs := a.defers) (ρ := ρ) (fun s1 a1 h1 hr1 hd1 => ?_) pre s _ a next hpre rfl hr rfl
 exact (ord_alts hsel t).2 s1 H h1 _ n hord hrd ρ S _ a1 (Ev.drew ρ S H w) hd1 (hs.heap rfl) hr1
theorem plan_any {P : Program} {ops : Array Oper} {s : List AV} {H : List Ent} {K : Ex → List AV → List Ent → Prop} {pre : List Nat} {hd tl : List (Nat × Nat)} (hB : planB P .any ops pre hd tl = true)
  (next : execB P ops pre s fun s1 => execH P ops hd s1 H fun s2 H2 => execT P ops tl s2 H2 K) {ρ : List Loc} {S : Nat → Prop} {w : World} {a : Act} (hs : Sat ρ S H w) (hr : RelS ρ s a.tmps.toList) :
  wpAny P .any ops (Post ρ S H w a.defers K) ops.size (Array.replicate ops.size false) a { w with drawn := w.drawn + 1 } := by
 simp only [planB, Bool.and_eq_true, decide_eq_true_eq] at hB
 obtain ⟨⟨⟨⟨⟨⟨hsel, hlen⟩, hcov⟩, ⟨⟨hpt, hht⟩, hwf⟩, hnd⟩, hfl, hfree⟩, hpre, hch⟩, hhd, htl⟩ := hB
 have hcov' : ∀ j, j < ops.size → j ∈ pre ∨ j ∈ hd.map Prod.fst ∨ j ∈ floats tl ∨ j ∈ wraps tl := fun j hj => by
  have := List.all_eq_true.1 hcov j (List.mem_range.2 hj)
  simp only [Bool.or_eq_true, List.contains_iff_mem] at this
  rcases this with (h | h) | h
  ·exact .inl h
  ·exact .inr (.inl h)
  ·exact .inr (.inr ((tl_split tl j).1 h))
 have hpt' := disj_spec hpt
 have hht' := disj_spec hht
 have inW : ∀ {j}, j ∈ wraps tl → j ∈ tl.map Prod.fst := fun h => (tl_split tl _).2 (.inr h)
 have inF : ∀ {j}, j ∈ floats tl → j ∈ tl.map Prod.fst := fun h => (tl_split tl _).2 (.inl h)
 have inv0 : PInv .any ops [] (wraps tl) (Array.replicate ops.size false) :=
  ⟨by simp, fun j oj _ hl => (by rw [getD_replicate_false] at hl; cases hl), fun t _ => getD_replicate_false _ _, fun k hk => by cases hk⟩
 have hin : ∀ (l : List Nat) (ls : Array Bool), preB .any ops l ls = true → ∀ k ∈ l, k < ops.size := by
  intro l
  induction l with
  | nil => intro ls _ k hk; cases hk
  | cons x l ih =>
   intro ls h k hk
   simp only [preB, Bool.and_eq_true] at h
   cases hk with
   | head =>
    have hr : x ∈ Region.ready .any ops ls := by simpa using h.1.1
    obtain ⟨_, o, ho, _⟩ := mem_ready.1 hr
    exact (Array.getElem?_eq_some_iff.1 ho).1
   | tail _ hk => exact ih _ h.2 k hk
 have inv1 := preB_inv (pre0 := pre) pre [] _ inv0 hpre (fun k hk h => hpt' k hk (inW h)) (hin _ _ hpre)
 rw [List.nil_append] at inv1
 have inv2 := hdB_inv (fl := floats tl) hd pre _ inv1 hhd fun k hk h => hht' k hk (inW h)
 have hs1 : (setAll (Array.replicate ops.size false) pre).size = ops.size := by rw [setAll_size]; simp
 have un1 : ∀ j, j < ops.size → j ∉ pre → (setAll (Array.replicate ops.size false) pre).getD j false = false := fun j hj hn => by
  rw [setAll_get _ _ _ (by simpa using hj), getD_replicate_false]
  simpa using hn
 have cx : Ctx P ops pre (hd.map Prod.fst) (reads hd) tl := by
  refine ⟨hsel, hcov', fun j hj h => hht' j hj (inW h), fun j hj h => disj_spec hwf j h hj, fun j hj h => hht' j hj (inF h), fun j hj h => hpt' j hj (inF h), fun i hi => List.all_eq_true.1 hfl i hi, fun i hi oi hoi k ok hk hne hnp hno => ?_, ?_⟩
  ·have hkl : k < ops.size := (Array.getElem?_eq_some_iff.1 hk).1
   exact Region.free_spec hoi (List.all_eq_true.1 hfree i hi) k ok hk hne (getD_in (by rw [hs1]; exact hkl) (un1 k hkl hnp)) hno
  ·rcases Bool.or_eq_true_iff.1 hch with h | h
   ·exact .inr (.inr (by simpa using h))
   ·exact .inr (.inl h)
 have hsz : ops.size = pre.length + (hd.length + tl.length) := by omega
 rw [hsz]
 have e0 : Array.replicate (pre.length + (hd.length + tl.length)) false = Array.replicate ops.size false := by rw [hsz]
 rw [e0]
 refine execB_sound hsel (fun c a d v w h => h.put) (dfs := a.defers) (ρ := ρ) (fun s1 a1 h1 hr1 hd1 => ?_) pre s _ a next hpre rfl hr rfl
 have hfl0 : ∀ i ∈ floats tl, i < ops.size := fun i hi => by
  obtain ⟨o, _, _, ho, _⟩ := floatB_spec (List.all_eq_true.1 hfl i hi)
  exact (Array.getElem?_eq_some_iff.1 ho).1
 have hmid : Mid P ops pre tl (floats tl) w (setAll (Array.replicate ops.size false) pre) [] (setAll (Array.replicate ops.size false) pre) ρ S H { w with drawn := w.drawn + 1 } :=
  ⟨⟨hs1, hs1, fun j => by simp⟩, inv1.pre, fun e he => absurd he (by simp), List.nodup_nil, List.nodup_nil, List.nodup_nil, fun i hi => ⟨hi, un1 i (hfl0 i hi) fun h => hpt' i h (inF hi)⟩, hnd, fun e he => absurd he (by simp)⟩
 have hH := head_C cx htl (fun j hj hun => by
   rcases hcov' j hj with h | h | h | h
   ·have := inv2.pre j (List.mem_append_left _ h); rw [hun] at this; cases this
   ·have := inv2.pre j (List.mem_append_right _ h); rw [hun] at this; cases this
   ·exact .inl h
   ·exact .inr h) hd s1 H h1 _ hhd (fun _ h => h) (fun _ h => h) rfl inv1 (floats tl).length [] (by simp) _ ρ S _ a1 hmid (Ev.drew ρ S H w) hd1 (hs.heap rfl) hr1
 exact AnyC.any _ _ _ _ hH
theorem plan_sound {P : Program} {ops : Array Oper} (hm : P.follows .mixedOrders = true) {id : Nat} {s : List AV} {H : List Ent} {K : Ex → List AV → List Ent → Prop} {pre : List Nat} {hd tl : List (Nat × Nat)} (hB : planB P .any ops pre hd tl = true)
  (next : execB P ops pre s fun s1 => execH P ops hd s1 H fun s2 H2 => execT P ops tl s2 H2 K) {ρ : List Loc} {S : Nat → Prop} {w : World} {a : Act} (hs : Sat ρ S H w) (hr : RelS ρ s a.tmps.toList) :
  (Code.region id ops true).wp P (Post ρ S H w a.defers K) a w :=
 wp_region_any hm (plan_any hB next hs hr)
theorem planC_any {P : Program} {C : World → Prop} {ops : Array Oper} {s : List AV} {H : List Ent} {K : Ex → List AV → List Ent → Prop} {pre : List Nat} {hd tl : List (Nat × Nat)} (hB : planB P .any ops pre hd tl = true)
  (hC : ∀ w, Facts H w → C w) (next : execB P ops pre s fun s1 => execC P C ops hd s1 H fun s2 H2 => execT P ops tl s2 H2 K) {ρ : List Loc} {S : Nat → Prop} {w : World} {a : Act} (hs : Sat ρ S H w) (hr : RelS ρ s a.tmps.toList) :
  wpAny P .any ops (Post ρ S H w a.defers K) ops.size (Array.replicate ops.size false) a { w with drawn := w.drawn + 1 } := by
 simp only [planB, Bool.and_eq_true, decide_eq_true_eq] at hB
 obtain ⟨⟨⟨⟨⟨⟨hsel, hlen⟩, hcov⟩, ⟨⟨hpt, hht⟩, hwf⟩, hnd⟩, hfl, hfree⟩, hpre, hch⟩, hhd, htl⟩ := hB
 have hcov' : ∀ j, j < ops.size → j ∈ pre ∨ j ∈ hd.map Prod.fst ∨ j ∈ floats tl ∨ j ∈ wraps tl := fun j hj => by
  have := List.all_eq_true.1 hcov j (List.mem_range.2 hj)
  simp only [Bool.or_eq_true, List.contains_iff_mem] at this
  rcases this with (h | h) | h
  ·exact .inl h
  ·exact .inr (.inl h)
  ·exact .inr (.inr ((tl_split tl j).1 h))
 have hpt' := disj_spec hpt
 have hht' := disj_spec hht
 have inW : ∀ {j}, j ∈ wraps tl → j ∈ tl.map Prod.fst := fun h => (tl_split tl _).2 (.inr h)
 have inF : ∀ {j}, j ∈ floats tl → j ∈ tl.map Prod.fst := fun h => (tl_split tl _).2 (.inl h)
 have inv0 : PInv .any ops [] (wraps tl) (Array.replicate ops.size false) :=
  ⟨by simp, fun j oj _ hl => (by rw [getD_replicate_false] at hl; cases hl), fun t _ => getD_replicate_false _ _, fun k hk => by cases hk⟩
 have hin : ∀ (l : List Nat) (ls : Array Bool), preB .any ops l ls = true → ∀ k ∈ l, k < ops.size := by
  intro l
  induction l with
  | nil => intro ls _ k hk; cases hk
  | cons x l ih =>
   intro ls h k hk
   simp only [preB, Bool.and_eq_true] at h
   cases hk with
   | head =>
    have hr : x ∈ Region.ready .any ops ls := by simpa using h.1.1
    obtain ⟨_, o, ho, _⟩ := mem_ready.1 hr
    exact (Array.getElem?_eq_some_iff.1 ho).1
   | tail _ hk => exact ih _ h.2 k hk
 have inv1 := preB_inv (pre0 := pre) pre [] _ inv0 hpre (fun k hk h => hpt' k hk (inW h)) (hin _ _ hpre)
 rw [List.nil_append] at inv1
 have inv2 := hdB_inv (fl := floats tl) hd pre _ inv1 hhd fun k hk h => hht' k hk (inW h)
 have hs1 : (setAll (Array.replicate ops.size false) pre).size = ops.size := by rw [setAll_size]; simp
 have un1 : ∀ j, j < ops.size → j ∉ pre → (setAll (Array.replicate ops.size false) pre).getD j false = false := fun j hj hn => by
  rw [setAll_get _ _ _ (by simpa using hj), getD_replicate_false]
  simpa using hn
 have cx : Ctx P ops pre (hd.map Prod.fst) (reads hd) tl := by
  refine ⟨hsel, hcov', fun j hj h => hht' j hj (inW h), fun j hj h => disj_spec hwf j h hj, fun j hj h => hht' j hj (inF h), fun j hj h => hpt' j hj (inF h), fun i hi => List.all_eq_true.1 hfl i hi, fun i hi oi hoi k ok hk hne hnp hno => ?_, ?_⟩
  ·have hkl : k < ops.size := (Array.getElem?_eq_some_iff.1 hk).1
   exact Region.free_spec hoi (List.all_eq_true.1 hfree i hi) k ok hk hne (getD_in (by rw [hs1]; exact hkl) (un1 k hkl hnp)) hno
  ·rcases Bool.or_eq_true_iff.1 hch with h | h
   ·exact .inr (.inr (by simpa using h))
   ·exact .inr (.inl h)
 have hsz : ops.size = pre.length + (hd.length + tl.length) := by omega
 rw [hsz]
 have e0 : Array.replicate (pre.length + (hd.length + tl.length)) false = Array.replicate ops.size false := by rw [hsz]
 rw [e0]
 refine execB_sound hsel (fun c a d v w h => h.put) (dfs := a.defers) (ρ := ρ) (fun s1 a1 h1 hr1 hd1 => ?_) pre s _ a next hpre rfl hr rfl
 have hfl0 : ∀ i ∈ floats tl, i < ops.size := fun i hi => by
  obtain ⟨o, _, _, ho, _⟩ := floatB_spec (List.all_eq_true.1 hfl i hi)
  exact (Array.getElem?_eq_some_iff.1 ho).1
 have hmid : Mid P ops pre tl (floats tl) w (setAll (Array.replicate ops.size false) pre) [] (setAll (Array.replicate ops.size false) pre) ρ S H { w with drawn := w.drawn + 1 } :=
  ⟨⟨hs1, hs1, fun j => by simp⟩, inv1.pre, fun e he => absurd he (by simp), List.nodup_nil, List.nodup_nil, List.nodup_nil, fun i hi => ⟨hi, un1 i (hfl0 i hi) fun h => hpt' i h (inF hi)⟩, hnd, fun e he => absurd he (by simp)⟩
 have hH := head_CC (C := C) cx htl (fun j hj hun => by
   rcases hcov' j hj with h | h | h | h
   ·have := inv2.pre j (List.mem_append_left _ h); rw [hun] at this; cases this
   ·have := inv2.pre j (List.mem_append_right _ h); rw [hun] at this; cases this
   ·exact .inl h
   ·exact .inr h) hd s1 H hC h1 _ hhd (fun _ h => h) (fun _ h => h) rfl inv1 (floats tl).length [] (by simp) _ ρ S _ a1 hmid (Ev.drew ρ S H w) hd1 (hs.heap rfl) hr1
 exact AnyC.any _ _ _ _ hH
theorem planC_sound {P : Program} {C : World → Prop} {ops : Array Oper} (hm : P.follows .mixedOrders = true) {id : Nat} {s : List AV} {H : List Ent} {K : Ex → List AV → List Ent → Prop} {pre : List Nat} {hd tl : List (Nat × Nat)} (hB : planB P .any ops pre hd tl = true)
  (hC : ∀ w, Facts H w → C w) (next : execB P ops pre s fun s1 => execC P C ops hd s1 H fun s2 H2 => execT P ops tl s2 H2 K) {ρ : List Loc} {S : Nat → Prop} {w : World} {a : Act} (hs : Sat ρ S H w) (hr : RelS ρ s a.tmps.toList) :
  (Code.region id ops true).wp P (Post ρ S H w a.defers K) a w :=
 wp_region_any hm (planC_any hB hC next hs hr)
theorem planQ_sound {P : Program} {ops : Array Oper} (hm : P.follows .mixedOrders = true) {id : Nat} {s : List AV} {H : List Ent} {K : Ex → List AV → List Ent → Prop} {pre hd0 : List Nat} {tl : List (Nat × Nat)} (hB : planB P .any ops pre (hd0.map fun k => (k, 1)) tl = true)
  (next : execB P ops pre s fun s1 => execL P ops hd0 s1 H fun s2 => execT P ops tl s2 H K) {ρ : List Loc} {S : Nat → Prop} {w : World} {a : Act} (hs : Sat ρ S H w) (hr : RelS ρ s a.tmps.toList) :
  (Code.region id ops true).wp P (Post ρ S H w a.defers K) a w := by
 have hfst : (hd0.map fun k => (k, 1)).map Prod.fst = hd0 := by simp [List.map_map, Function.comp_def]
 have hrds : reads (hd0.map fun k => (k, 1)) = hd0 := by
  unfold reads
  rw [List.filter_eq_self.2 fun x hx => by obtain ⟨k, _, rfl⟩ := List.mem_map.1 hx; rfl, hfst]
 generalize hhd0 : (hd0.map fun k => (k, 1)) = hd at *
 simp only [planB, Bool.and_eq_true, decide_eq_true_eq] at hB
 obtain ⟨⟨⟨⟨⟨⟨hsel, hlen⟩, hcov⟩, ⟨⟨hpt, hht⟩, hwf⟩, hnd⟩, hfl, hfree⟩, hpre, hch⟩, hhd, htl⟩ := hB
 have hcov' : ∀ j, j < ops.size → j ∈ pre ∨ j ∈ hd.map Prod.fst ∨ j ∈ floats tl ∨ j ∈ wraps tl := fun j hj => by
  have := List.all_eq_true.1 hcov j (List.mem_range.2 hj)
  simp only [Bool.or_eq_true, List.contains_iff_mem] at this
  rcases this with (h | h) | h
  ·exact .inl h
  ·exact .inr (.inl h)
  ·exact .inr (.inr ((tl_split tl j).1 h))
 have hpt' := disj_spec hpt
 have hht' := disj_spec hht
 have inW : ∀ {j}, j ∈ wraps tl → j ∈ tl.map Prod.fst := fun h => (tl_split tl _).2 (.inr h)
 have inF : ∀ {j}, j ∈ floats tl → j ∈ tl.map Prod.fst := fun h => (tl_split tl _).2 (.inl h)
 have inv0 : PInv .any ops [] (wraps tl) (Array.replicate ops.size false) :=
  ⟨by simp, fun j oj _ hl => (by rw [getD_replicate_false] at hl; cases hl), fun t _ => getD_replicate_false _ _, fun k hk => by cases hk⟩
 have hin : ∀ (l : List Nat) (ls : Array Bool), preB .any ops l ls = true → ∀ k ∈ l, k < ops.size := by
  intro l
  induction l with
  | nil => intro ls _ k hk; cases hk
  | cons x l ih =>
   intro ls h k hk
   simp only [preB, Bool.and_eq_true] at h
   cases hk with
   | head =>
    have hr : x ∈ Region.ready .any ops ls := by simpa using h.1.1
    obtain ⟨_, o, ho, _⟩ := mem_ready.1 hr
    exact (Array.getElem?_eq_some_iff.1 ho).1
   | tail _ hk => exact ih _ h.2 k hk
 have inv1 := preB_inv (pre0 := pre) pre [] _ inv0 hpre (fun k hk h => hpt' k hk (inW h)) (hin _ _ hpre)
 rw [List.nil_append] at inv1
 have inv2 := hdB_inv (fl := floats tl) hd pre _ inv1 hhd fun k hk h => hht' k hk (inW h)
 have hs1 : (setAll (Array.replicate ops.size false) pre).size = ops.size := by rw [setAll_size]; simp
 have un1 : ∀ j, j < ops.size → j ∉ pre → (setAll (Array.replicate ops.size false) pre).getD j false = false := fun j hj hn => by
  rw [setAll_get _ _ _ (by simpa using hj), getD_replicate_false]
  simpa using hn
 have cx : Ctx P ops pre (hd.map Prod.fst) (reads hd) tl := by
  refine ⟨hsel, hcov', fun j hj h => hht' j hj (inW h), fun j hj h => disj_spec hwf j h hj, fun j hj h => hht' j hj (inF h), fun j hj h => hpt' j hj (inF h), fun i hi => List.all_eq_true.1 hfl i hi, fun i hi oi hoi k ok hk hne hnp hno => ?_, ?_⟩
  ·have hkl : k < ops.size := (Array.getElem?_eq_some_iff.1 hk).1
   exact Region.free_spec hoi (List.all_eq_true.1 hfree i hi) k ok hk hne (getD_in (by rw [hs1]; exact hkl) (un1 k hkl hnp)) hno
  ·rcases Bool.or_eq_true_iff.1 hch with h | h
   ·exact .inr (.inr (by simpa using h))
   ·exact .inr (.inl h)
 refine wp_region_any hm ?_
 have hsz : ops.size = pre.length + (hd.length + tl.length) := by omega
 rw [hsz]
 have e0 : Array.replicate (pre.length + (hd.length + tl.length)) false = Array.replicate ops.size false := by rw [hsz]
 rw [e0]
 refine execB_sound hsel (fun c a d v w h => h.put) (dfs := a.defers) (ρ := ρ) (fun s1 a1 h1 hr1 hd1 => ?_) pre s _ a next hpre rfl hr rfl
 have hfl0 : ∀ i ∈ floats tl, i < ops.size := fun i hi => by
  obtain ⟨o, _, _, ho, _⟩ := floatB_spec (List.all_eq_true.1 hfl i hi)
  exact (Array.getElem?_eq_some_iff.1 ho).1
 have hmid : Mid P ops pre tl (floats tl) w (setAll (Array.replicate ops.size false) pre) [] (setAll (Array.replicate ops.size false) pre) ρ S H { w with drawn := w.drawn + 1 } :=
  ⟨⟨hs1, hs1, fun j => by simp⟩, inv1.pre, fun e he => absurd he (by simp), List.nodup_nil, List.nodup_nil, List.nodup_nil, fun i hi => ⟨hi, un1 i (hfl0 i hi) fun h => hpt' i h (inF hi)⟩, hnd, fun e he => absurd he (by simp)⟩
 rw [hfst] at cx inv2
 rw [hrds] at cx
 have hcv : ∀ j, j < ops.size → (setAll (setAll (Array.replicate ops.size false) pre) hd0).getD j false = false → j ∈ floats tl ∨ j ∈ wraps tl := fun j hj hun => by
  rcases hcov' j hj with h | h | h | h
  ·have := inv2.pre j (List.mem_append_left _ h); rw [hun] at this; cases this
  ·rw [hfst] at h; have := inv2.pre j (List.mem_append_right _ h); rw [hun] at this; cases this
  ·exact .inl h
  ·exact .inr h
 rw [hfst] at htl
 have hF := headF_lex cx hcv (hs.heap rfl) hd0 s1 _ a1 h1 (by rw [hhd0]; exact hhd) (fun _ h => h) inv1 hr1 hd1 rfl
 have hnf := hdB_nf hd0 _ (by rw [hhd0]; exact hhd) (fun i hi => un1 i (hfl0 i hi) fun h => hpt' i h (inF hi)) (fun k hk => cx.hf k hk)
 have hH := headF_C (K := K) cx hnf htl hcv hd0.length (floats tl).length [] (by simp) _ _ S _ a1 inv1 hF hmid (Ev.drew ρ S H w) (hs.heap rfl)
 have hlh : hd.length = hd0.length := by rw [← hhd0]; simp
 rw [hlh]
 exact AnyC.any _ _ _ _ hH
end plan
theorem wp_loop_by {P : Program} {c : Code} {Q : Exit → Act → World → Prop} (I : Nat → Act → World → Prop)
  (round : ∀ n a w, I n a w → c.wp P (Exit.then (fun a' w' => ∃ m, m < n ∧ I m a' w') Q) a w) : ∀ n a w, I n a w → (Code.loop c).wp P Q a w := by
 intro n a w h0 b k cs
 have key : ∀ n a w, I n a w → ∃ e a' w', Q e a' w' ∧ Arrives P (lone (b.at a (.code c :: .inLoop c :: k)) cs w) b k cs e a' w' := by
  intro n
  induction n using Nat.strongRecOn with
  | _ n ih =>
   intro a w hI
   obtain ⟨e, a1, w1, hq, harr⟩ := round n a w hI b (.inLoop c :: k) cs
   cases e with
   | normal =>
    obtain ⟨m, hm, hI1⟩ := hq
    obtain ⟨e2, a2, w2, hq2, harr2⟩ := ih m hm a1 w1 hI1
    exact ⟨e2, a2, w2, hq2, .of_steps (Steps.trans harr (.one step_inLoop)) harr2⟩
   | exit id => exact ⟨_, a1, w1, hq, .pass (x := .inLoop c) rfl (fun _ _ => .inl (by simp)) harr⟩
   | goto l => exact ⟨_, a1, w1, hq, .pass (x := .inLoop c) rfl (fun _ _ => .inl (by simp)) harr⟩
   | ret => exact ⟨_, a1, w1, hq, .pass (x := .inLoop c) rfl (fun _ _ => .inl (by simp)) harr⟩
   | panic ch => exact ⟨_, a1, w1, hq, .pass (x := .inLoop c) rfl (fun _ _ => .inl (by simp)) harr⟩
   | outgrown => exact ⟨_, a1, w1, hq, .pass (x := .inLoop c) rfl (fun _ _ => .inl (by simp)) harr⟩
 obtain ⟨e, a', w', hq, harr⟩ := key n a w h0
 exact ⟨e, a', w', hq, .of_steps (.one step_loop) harr⟩
end Go.AX
namespace Go.AX
theorem condK_spec {c : Operand} {s : List AV} {A B : List AV → Prop} (h : condK c s A B) {ρ : List Loc} {a : Act} (hr : RelS ρ s a.tmps.toList) :
  ∃ b, a.eval c = .bool b ∧ ((b = true ∧ ∃ s', A s' ∧ RelS ρ s' a.tmps.toList) ∨ (b = false ∧ ∃ s', B s' ∧ RelS ρ s' a.tmps.toList)) := by
 unfold condK at h
 split at h
 ·rename_i t
  split at h
  ·rename_i b hb
   have hx := nth_get hr hb
   have hset : RelS ρ (s.set t (.c (.v (.bool b)))) a.tmps.toList := by
    have := RelS_set (i := t) hr (av := .c (.v (.bool b))) (v := .bool b) rfl
    rw [set_same hx] at this
    exact this
   have he : a.eval (.tmp t) = .bool b := by
    have : a.tmps[t]? = some (.bool b) := by simpa using hx
    simp [Act.eval, this]
   refine ⟨b, he, ?_⟩
   cases b
   ·exact .inr ⟨rfl, _, (setK_spec (brd_false h rfl)).2, hset⟩
   ·exact .inl ⟨rfl, _, (setK_spec (brd_true h rfl)).2, hset⟩
  ·exact h.elim
 ·rename_i b
  refine ⟨b, rfl, ?_⟩
  cases b
  ·exact .inr ⟨rfl, _, brd_false h rfl, hr⟩
  ·exact .inl ⟨rfl, _, brd_true h rfl, hr⟩
 ·exact h.elim
theorem Sat.pad {S : Nat → Prop} {w : World} : ∀ {ρ : List Loc} {H : List Ent} (pad : List Ent), padB pad = true → Sat ρ S H w → ∃ t, Sat (ρ ++ t) S (H ++ pad) w ∧ Ev ρ S H w (ρ ++ t) S (H ++ pad) w
 | ρ, H, [], _, h => ⟨[], by simpa using h, by simpa using Ev.refl ρ S H w⟩
 | ρ, H, e :: es, hp, h => by
  have key : (∀ b, ¬ entB (ρ ++ [⟨0, 0⟩]) H.length e b) ∧ EntOk (ρ ++ [⟨0, 0⟩]) S w H.length e ∧ padB es = true := by
   unfold padB at hp
   split at hp
   ·rename_i heq; cases heq
   ·rename_i heq; cases heq; exact ⟨fun b hb => (by cases hb), .inl ⟨rfl, rfl, rfl, rfl⟩, hp⟩
   ·rename_i heq; cases heq; exact ⟨fun b hb => (by cases hb), trivial, hp⟩
   ·cases hp
  obtain ⟨hnb, hok, hes⟩ := key
  have hcase : ∀ (i : Nat) (f : Ent), (H ++ [e])[i]? = some f → (i < H.length ∧ H[i]? = some f) ∨ (i = H.length ∧ f = e) := fun i f hf => by
   by_cases hi : i < H.length
   ·rw [List.getElem?_append_left hi] at hf; exact .inl ⟨hi, hf⟩
   ·have hi2 : i = H.length := by
     have := (List.getElem?_eq_some_iff.1 hf).1
     simp at this; omega
    subst hi2
    simp at hf
    exact .inr ⟨rfl, hf.symm⟩
  have hb2 : ∀ (i : Nat) (f : Ent) (b : Nat), (H ++ [e])[i]? = some f → entB (ρ ++ [⟨0, 0⟩]) i f b → H[i]? = some f ∧ entB ρ i f b := fun i f b hf hb => by
   rcases hcase i f hf with ⟨hi, hf'⟩ | ⟨rfl, rfl⟩
   ·rw [entB_pre _ (by rw [h.len]; exact hi)] at hb
    exact ⟨hf', hb⟩
   ·exact absurd hb (hnb b)
  have h1 : Sat (ρ ++ [⟨0, 0⟩]) S (H ++ [e]) w := by
   refine ⟨by simp [h.len], fun i f hf => ?_, fun i j f g b hf hg hfb hgb => ?_, fun b ⟨i, f, hf, hfb⟩ => h.out b ⟨i, f, (hb2 i f b hf hfb).1, (hb2 i f b hf hfb).2⟩, h.low⟩
   ·rcases hcase i f hf with ⟨hi, hf'⟩ | ⟨rfl, rfl⟩
    ·exact (h.ent i f hf').move [⟨0, 0⟩] (fun _ _ => rfl) fun _ _ => rfl
    ·exact hok
   ·have x := hb2 i f b hf hfb
    have y := hb2 j g b hg hgb
    exact h.inj i j f g b x.1 y.1 x.2 y.2
  have e1 : Ev ρ S H w (ρ ++ [⟨0, 0⟩]) S (H ++ [e]) w := ⟨⟨_, rfl⟩, rfl, rfl, rfl, Nat.le_refl _, fun _ _ _ => rfl, fun b hb => .inl hb, fun b ⟨i, f, hf, hfb⟩ => .inl ⟨i, f, (hb2 i f b hf hfb).1, (hb2 i f b hf hfb).2⟩⟩
  obtain ⟨t, h2, e2⟩ := Sat.pad es hes h1
  exact ⟨⟨0, 0⟩ :: t, by simpa using h2, by simpa using e1.trans e2⟩
theorem exec_sound {P : Program} (hm : P.follows .mixedOrders = true) : ∀ (c : Code) (s : List AV) (H : List Ent) (K : Ex → List AV → List Ent → Prop), exec P c s H K →
  ∀ (ρ : List Loc) (S : Nat → Prop) (w : World) (a : Act), Sat ρ S H w → RelS ρ s a.tmps.toList → c.wp P (Post ρ S H w a.defers K) a w := by
 intro c
 induction c with
 | skip => intro s H K h ρ S w a hs hr; exact wp_skip ⟨ρ, S, s, H, .normal, hs, Ev.refl _ _ _ _, hr, rfl, trivial, h⟩
 | label l => intro s H K h ρ S w a hs hr; exact wp_label ⟨ρ, S, s, H, .normal, hs, Ev.refl _ _ _ _, hr, rfl, trivial, h⟩
 | exit id => intro s H K h ρ S w a hs hr; exact wp_exit ⟨ρ, S, s, H, .exit id, hs, Ev.refl _ _ _ _, hr, rfl, rfl, h⟩
 | ret => intro s H K h ρ S w a hs hr; exact wp_ret ⟨ρ, S, s, H, .ret, hs, Ev.refl _ _ _ _, hr, rfl, trivial, h⟩
 | goto l => intro s H K h; exact h.elim
 | refuse y => intro s H K h; exact h.elim
 | scope b ih => intro s H K h; exact h.elim
 | rangeFunc f ps _ b _ _ => intro s H K h; exact h.elim
 | region id ops draw =>
  intro s H K h0 ρ S w a hs hr
  have h : regionK P ops draw s H K := h0
  clear h0
  unfold regionK at h
  split at h
  ·exact wp_region_list (execOps_sound _ _ _ h ρ S w a hs hr)
  ·have h0 : Cls ρ S H w { w with drawn := w.drawn + 1 } := ⟨S, hs.heap rfl, Ev.drew _ _ _ _⟩
   rcases h with ⟨hB, h⟩ | ⟨pre, hd, tl, hB, h⟩ | ⟨pre, hd, tl, hB, h⟩ | ⟨C, pre, hd, tl, hB, hC, h⟩ | ⟨pre, t, n, hB, h⟩ | h
   ·refine wp_region_quiet (C := Cls ρ S H w) hm hB h0 ?_
    have hq := execQ_sound ⟨_, h0⟩ _ _ h a hr
    refine wpQuiet_mono (fun a' ⟨s', hK, hr', hd⟩ w' ⟨S', hs', hev⟩ => ?_) _ _ hq
    exact ⟨ρ, S', s', H, .normal, hs', hev, hr', hd, trivial, hK⟩
   ·exact plan_sound hm hB h hs hr
   ·exact planQ_sound hm hB h hs hr
   ·exact planC_sound hm hB hC h hs hr
   ·exact tree_sound hm hB h hs hr
   ·exact h _ ρ S w a hs hr
 | seq x y ihx ihy =>
  intro s H K h ρ S w a hs hr
  refine wp_seq (wp_mono (ihx s H (seqK (exec P y) K) h ρ S w a hs hr) fun e a' w' hp => ?_)
  obtain ⟨ρ1, S1, s1, H1, ex, hs1, hev, hr1, hd, hex, hK⟩ := hp
  cases ex with
  | normal =>
   cases e <;> first | exact hex.elim | skip
   refine wp_mono (ihy s1 H1 K hK ρ1 S1 w' a' hs1 hr1) fun e2 a2 w2 hp2 => ?_
   rw [hd] at hp2
   exact hp2.from hev
  | exit n => cases e <;> first | exact hex.elim | exact ⟨ρ1, S1, s1, H1, .exit n, hs1, hev, hr1, hd, hex, hK⟩
  | ret => cases e <;> first | exact hex.elim | exact ⟨ρ1, S1, s1, H1, .ret, hs1, hev, hr1, hd, hex, hK⟩
  | pan n => cases e <;> first | exact hex.elim | exact ⟨ρ1, S1, s1, H1, .pan n, hs1, hev, hr1, hd, hex, hK⟩
 | cond c x y ihx ihy =>
  intro s H K h0 ρ S w a hs hr
  have h : condK c s (fun s => exec P x s H K) (fun s => exec P y s H K) := h0
  obtain ⟨b, hb, hc⟩ := condK_spec h hr
  refine wp_cond hb ?_
  rcases hc with ⟨rfl, s', hK, hr'⟩ | ⟨rfl, s', hK, hr'⟩
  ·exact ihx s' H K hK ρ S w a hs hr'
  ·exact ihy s' H K hK ρ S w a hs hr'
 | block id b ih =>
  intro s H K h ρ S w a hs hr
  refine wp_block (wp_mono (ih s H (blockK id K) h ρ S w a hs hr) fun e a' w' hp => ?_)
  obtain ⟨ρ1, S1, s1, H1, ex, hs1, hev, hr1, hd, hex, hK⟩ := hp
  cases ex with
  | normal => cases e <;> first | exact hex.elim | exact ⟨ρ1, S1, s1, H1, .normal, hs1, hev, hr1, hd, trivial, hK⟩
  | ret => cases e <;> first | exact hex.elim | exact ⟨ρ1, S1, s1, H1, .ret, hs1, hev, hr1, hd, trivial, hK⟩
  | pan n => cases e <;> first | exact hex.elim | exact ⟨ρ1, S1, s1, H1, .pan n, hs1, hev, hr1, hd, hex, hK⟩
  | exit n =>
   cases e <;> first | exact hex.elim | skip
   rename_i m
   have hnm : n = m := hex
   subst hnm
   by_cases hid : n = id
   ·subst hid
    simp only [Exit.inBlock, if_true]
    have hK' : K .normal s1 H1 := by simpa [blockK] using hK
    exact ⟨ρ1, S1, s1, H1, .normal, hs1, hev, hr1, hd, trivial, hK'⟩
   ·simp only [Exit.inBlock, if_neg hid]
    have hbq : Nat.beq n id = false := by cases hq : Nat.beq n id with | false => rfl | true => exact absurd (Nat.eq_of_beq_eq_true hq) hid
    have hK' : K (.exit n) s1 H1 := by simpa [blockK, hbq] using hK
    exact ⟨ρ1, S1, s1, H1, .exit n, hs1, hev, hr1, hd, rfl, hK'⟩
 | loop b ih =>
  intro s H K h0 ρ S w a hs hr
  have h : LoopN (exec P b) s H K := h0
  rcases h with ⟨ι, inv, sl, hp, μ, pad, hpad, hlen, hoks, hokh, ⟨i0, hi0, hst, hsh⟩, hround⟩ | ⟨n, hU⟩ | ⟨ι, inv, sl, hp, μ, pad, hpad, hlen, hoks, hokh, ⟨i0, hi0, hst, hsh⟩, hround⟩
  ·obtain ⟨t0, hs0, hev0⟩ := Sat.pad pad hpad hs
   have hr0 := RelS_pre t0 hr
   refine wp_mono (P := P) (c := .loop b) (Q := Post (ρ ++ t0) S (H ++ pad) w a.defers K) ?_ fun e a' w' hp => hp.from hev0
   clear hs hr h0
   have hs := hs0
   have hr := hr0
   clear hs0 hr0
   generalize ρ ++ t0 = ρ at *
   generalize H ++ pad = H at *
   simp only [forceS_eq, forceH_eq] at hround
   refine wp_loop_by (fun n a' w' => ∃ i ρ' S', inv i ∧ μ i = n ∧ Sat ρ' S' (hp i) w' ∧ Ev ρ S H w ρ' S' (hp i) w' ∧ RelS ρ' (sl i) a'.tmps.toList ∧ a'.defers = a.defers) ?_ (μ i0) a w ?_
   ·rintro n a' w' ⟨i, ρ', S', hinv, rfl, hs', hev, hr', hd⟩
    refine wp_mono (ih (sl i) (hp i) _ (hround i hinv) ρ' S' w' a' hs' hr') fun e a2 w2 hq => ?_
    obtain ⟨ρ2, S2, s2, H2, ex, hs2, hev2, hr2, hd2, hex, hK⟩ := hq
    cases ex with
    | normal =>
     cases e <;> first | exact hex.elim | skip
     obtain ⟨j, hij, hj, hws, hwh⟩ := hK
     have hw := hs2.weak hwh (by rw [hlen]; exact hokh j hij)
     refine ⟨μ j, hj, j, ρ2.take (hp j).length, S2, hij, rfl, hw.1, ?_, ?_, hd2.trans hd⟩
     ·have h12 := hev.trans hev2
      refine ⟨?_, h12.os, h12.tape, h12.output, h12.size, h12.keep, h12.imm, fun b hb => h12.own b (hw.2 b hb)⟩
      obtain ⟨t, ht⟩ := h12.pre
      refine ⟨t.take ((hp j).length - ρ.length), ?_⟩
      rw [ht, List.take_append, List.take_of_length_le (by rw [hs.len, hlen]; omega)]
     ·rw [hlen]; exact wkS_rel hws (hoks j) hr2
    | exit n => cases e <;> first | exact hex.elim | exact ⟨ρ2, S2, s2, H2, .exit n, hs2, hev.trans hev2, hr2, hd2.trans hd, hex, hK⟩
    | ret => cases e <;> first | exact hex.elim | exact ⟨ρ2, S2, s2, H2, .ret, hs2, hev.trans hev2, hr2, hd2.trans hd, trivial, hK⟩
    | pan n => cases e <;> first | exact hex.elim | exact ⟨ρ2, S2, s2, H2, .pan n, hs2, hev.trans hev2, hr2, hd2.trans hd, hex, hK⟩
   ·have hw := hs.weak hsh (by rw [hlen]; exact hokh i0 hi0)
    have hρ : ρ.take (hp i0).length = ρ := List.take_of_length_le (by rw [hs.len, hlen]; omega)
    rw [hρ] at hw
    refine ⟨i0, ρ, S, hi0, rfl, hw.1, ⟨⟨[], by simp⟩, rfl, rfl, rfl, Nat.le_refl _, fun _ _ _ => rfl, fun b hb => .inl hb, fun b hb => .inl (hw.2 b hb)⟩, ?_, rfl⟩
    have := wkS_rel hst (hoks i0) hr
    rw [← hlen i0, hρ] at this
    exact this
  ·refine wp_loop_by (fun n a' w' => ∃ s' H' ρ' S', LoopU (exec P b) K n s' H' ∧ Sat ρ' S' H' w' ∧ Ev ρ S H w ρ' S' H' w' ∧ RelS ρ' s' a'.tmps.toList ∧ a'.defers = a.defers) ?_ n a w ⟨s, H, ρ, S, hU, hs, Ev.refl _ _ _ _, hr, rfl⟩
   rintro n a' w' ⟨s', H', ρ', S', hU, hs', hev, hr', hd⟩
   cases n with
   | zero => exact hU.elim
   | succ n =>
    refine wp_mono (ih s' H' _ hU ρ' S' w' a' hs' hr') fun e a2 w2 hq => ?_
    obtain ⟨ρ2, S2, s2, H2, ex, hs2, hev2, hr2, hd2, hex, hK⟩ := hq
    cases ex with
    | normal =>
     cases e <;> first | exact hex.elim | skip
     exact ⟨n, Nat.lt_succ_self n, s2, H2, ρ2, S2, hK, hs2, hev.trans hev2, hr2, hd2.trans hd⟩
    | exit n => cases e <;> first | exact hex.elim | exact ⟨ρ2, S2, s2, H2, .exit n, hs2, hev.trans hev2, hr2, hd2.trans hd, hex, hK⟩
    | ret => cases e <;> first | exact hex.elim | exact ⟨ρ2, S2, s2, H2, .ret, hs2, hev.trans hev2, hr2, hd2.trans hd, trivial, hK⟩
    | pan n => cases e <;> first | exact hex.elim | exact ⟨ρ2, S2, s2, H2, .pan n, hs2, hev.trans hev2, hr2, hd2.trans hd, hex, hK⟩
  ·obtain ⟨t0, hs0, hev0⟩ := Sat.pad pad hpad hs
   have hr0 := RelS_pre t0 hr
   refine wp_mono (P := P) (c := .loop b) (Q := Post (ρ ++ t0) S (H ++ pad) w a.defers K) ?_ fun e a' w' hp => hp.from hev0
   clear hs hr h0
   have hs := hs0
   have hr := hr0
   clear hs0 hr0
   generalize ρ ++ t0 = ρ at *
   generalize H ++ pad = H at *
   simp only [forceS_eq, forceH_eq] at hround
   refine wp_loop_by (fun n a' w' => ∃ i ρ' S', inv i ∧ μ i = n ∧ Sat ρ' S' (hp i) w' ∧ Ev ρ S H w ρ' S' (hp i) w' ∧ RelS ρ' (sl i) a'.tmps.toList ∧ a'.defers = a.defers) ?_ (μ i0) a w ?_
   ·rintro n a' w' ⟨i, ρ', S', hinv, rfl, hs', hev, hr', hd⟩
    refine wp_mono (ih (sl i) (hp i) _ (hround i hinv) ρ' S' w' a' hs' hr') fun e a2 w2 hq => ?_
    obtain ⟨ρ2, S2, s2, H2, ex, hs2, hev2, hr2, hd2, hex, hK⟩ := hq
    cases ex with
    | normal =>
     cases e <;> first | exact hex.elim | skip
     obtain ⟨j, hij, hj, hws, G, hT, hwh⟩ := hK
     obtain ⟨S3, hs3, hev3⟩ := hT.2 _ _ _ hs2
     have hw := hs3.weak hwh (by rw [hlen]; exact hokh j hij)
     refine ⟨μ j, hj, j, ρ2.take (hp j).length, S3, hij, rfl, hw.1, ?_, ?_, hd2.trans hd⟩
     ·have h12 := (hev.trans hev2).trans hev3
      refine ⟨?_, h12.os, h12.tape, h12.output, h12.size, h12.keep, h12.imm, fun b hb => h12.own b (hw.2 b hb)⟩
      obtain ⟨t, ht⟩ := h12.pre
      refine ⟨t.take ((hp j).length - ρ.length), ?_⟩
      rw [ht, List.take_append, List.take_of_length_le (by rw [hs.len, hlen]; omega)]
     ·rw [hlen]; exact wkS_rel hws (hoks j) hr2
    | exit n => cases e <;> first | exact hex.elim | exact ⟨ρ2, S2, s2, H2, .exit n, hs2, hev.trans hev2, hr2, hd2.trans hd, hex, hK⟩
    | ret => cases e <;> first | exact hex.elim | exact ⟨ρ2, S2, s2, H2, .ret, hs2, hev.trans hev2, hr2, hd2.trans hd, trivial, hK⟩
    | pan n => cases e <;> first | exact hex.elim | exact ⟨ρ2, S2, s2, H2, .pan n, hs2, hev.trans hev2, hr2, hd2.trans hd, hex, hK⟩
   ·obtain ⟨G, hT, hsh⟩ := hsh
    obtain ⟨S3, hs3, hev3⟩ := hT.2 _ _ _ hs
    have hw := hs3.weak hsh (by rw [hlen]; exact hokh i0 hi0)
    have hρ : ρ.take (hp i0).length = ρ := List.take_of_length_le (by rw [hs.len, hlen]; omega)
    rw [hρ] at hw
    refine ⟨i0, ρ, S3, hi0, rfl, hw.1, ⟨⟨[], by simp⟩, hev3.os, hev3.tape, hev3.output, hev3.size, hev3.keep, hev3.imm, fun b hb => hev3.own b (hw.2 b hb)⟩, ?_, rfl⟩
    have := wkS_rel hst (hoks i0) hr
    rw [← hlen i0, hρ] at this
    exact this
 where
 wpQuiet_mono {P : Program} {ops : Array Oper} {C : World → Prop} {Q Q' : Act → Prop} (hq : ∀ a, Q a → Q' a) : ∀ (l : List Oper) (a : Act), wpQuiet P ops C Q l a → wpQuiet P ops C Q' l a
  | [], a, h => hq a h
  | o :: l, a, h => by
   unfold wpQuiet at h ⊢
   split at h
   ·rename_i hw; rw [if_pos hw]; exact Oper.quiet_mono (fun a => wpQuiet_mono hq l a) h
   ·rename_i hw; rw [if_neg hw]; exact wpQuiet_mono hq l _ h
theorem initK_rel : ∀ {n : Nat} {args : List AV} {K : List AV → Prop}, initK n args K → args.length ≤ n →
  ∃ s, K s ∧ ∀ (ρ : List Loc) (vs : List Value), RelS ρ args vs → RelS ρ s (vs ++ List.replicate (n - args.length) undef)
 | 0, [], K, h, _ => ⟨[], h, fun ρ vs hr => by cases vs <;> first | exact hr.elim | simp [RelS]⟩
 | n + 1, [], K, h, _ => by
  obtain ⟨s, hK, hs⟩ := initK_rel (n := n) (args := []) (K := fun s => K (.c .any :: s)) h (by simp)
  refine ⟨_, hK, fun ρ vs hr => ?_⟩
  cases vs with
  | cons _ _ => exact hr.elim
  | nil =>
   have := hs ρ [] trivial
   simp only [List.length_nil, Nat.sub_zero, List.nil_append] at this ⊢
   rw [List.replicate_succ]
   exact ⟨trivial, this⟩
 | n + 1, x :: args, K, h, hl => by
  obtain ⟨s, hK, hs⟩ := initK_rel (n := n) (args := args) (K := fun s => K (x :: s)) h (by simpa using hl)
  refine ⟨_, hK, fun ρ vs hr => ?_⟩
  cases vs with
  | nil => exact hr.elim
  | cons v vs =>
   have := hs ρ vs hr.2
   refine ⟨hr.1, ?_⟩
   simpa using this
 | 0, _ :: _, _, _, hl => by simp at hl
def resSem (tmps : Array Value) : ResultVar → Sem Value
 | .tmp t => pure (tmps.getD t undef)
 | .cell a t => do loadVar t (← asAddr (tmps.getD a undef))
theorem loadL_res {P : Program} {H : List Ent} {K : AV → Prop} {T : TypeId} {i off : Nat} (h : loadL P T (nthE H i) off K) :
  ∃ av, K av ∧ ∀ (ρ : List Loc) (S : Nat → Prop) (w : World) (l : Loc), Sat ρ S H w → ρ[i]? = some l → ∃ v, (loadVar T ⟨l.b, off, none⟩).run P w = .ok v w ∧ av.rel ρ v := by
 obtain ⟨av, hK, hr⟩ := loadL_sound (o := { dst := none, op := .load T (.tmp 0), type := 0, pos := "", after := #[], guard := none }) (s := [.c (.lp i off)]) (x := .tmp 0) rfl rfl h
 refine ⟨av, hK, fun ρ S w l hs hl => ?_⟩
 obtain ⟨v, hrun, hrel⟩ := hr ρ S w { tmps := #[.pointer (some ⟨l.b, off, none⟩)], defers := [] } hs ⟨⟨l, hl, rfl⟩, trivial⟩
 refine ⟨v, ?_, hrel⟩
 unfold execOp at hrun
 simp only [Act.eval, Instr.loadAt, Sem.run_bind] at hrun
 have e : (Instr.sureAddr ((#[Value.pointer (some ⟨l.b, off, none⟩)] : Array Value).getD 0 undef)).run P w = .ok ⟨l.b, off, none⟩ w := rfl
 rw [e] at hrun
 simp only [Result.andThen_ok] at hrun
 revert hrun
 generalize (loadVar T ⟨l.b, off, none⟩).run P w = r
 intro hrun
 cases r with
 | ok x w' =>
  simp only [Result.andThen_ok, Sem.run_pure, Result.ok.injEq, Next.value.injEq] at hrun
  rw [hrun.1, hrun.2]
 | halt x w' => simp [Result.andThen] at hrun
theorem resOne_sound {P : Program} {r : ResultVar} {s : List AV} {H : List Ent} {K : AV → Prop} (h : resOne P r s H K) :
  ∃ av, K av ∧ ∀ (ρ : List Loc) (S : Nat → Prop) (w : World) (tmps : Array Value), Sat ρ S H w → RelS ρ s tmps.toList → ∃ v, (resSem tmps r).run P w = .ok v w ∧ av.rel ρ v := by
 unfold resOne at h
 split at h
 ·rename_i t
  rw [forceA_eq] at h
  exact ⟨_, h, fun ρ S w tmps _ hr => ⟨_, rfl, by have := nth_rel t hr; simpa using this⟩⟩
 ·rename_i a T
  split at h
  ·rename_i i off hx
   obtain ⟨av, hK, hl⟩ := loadL_res h
   refine ⟨av, hK, fun ρ S w tmps hs hr => ?_⟩
   have hxr := nth_rel a hr
   rw [hx] at hxr
   obtain ⟨l, hlo, he⟩ := hxr
   obtain ⟨v, hrun, hrel⟩ := hl ρ S w l hs hlo
   have he' : tmps.getD a undef = .pointer (some ⟨l.b, off, none⟩) := by simpa using he
   exact ⟨v, by simp only [resSem, he', asAddr, Sem.run_bind, Sem.run_pure, Result.andThen_ok, hrun], hrel⟩
  ·exact h.elim
theorem resAll_sound {P : Program} {s : List AV} {H : List Ent} : ∀ {rs : List ResultVar} {K : List AV → Prop}, resAll P s H rs K →
  ∃ l, K l ∧ l.length = rs.length ∧ ∀ (ρ : List Loc) (S : Nat → Prop) (w : World) (tmps : Array Value), Sat ρ S H w → RelS ρ s tmps.toList → ∃ vs, (rs.mapM (resSem tmps)).run P w = .ok vs w ∧ RelS ρ l vs
 | [], K, h => ⟨[], h, rfl, fun _ _ _ _ _ _ => ⟨[], by simp, trivial⟩⟩
 | r :: rs, K, h0 => by
  have h : resOne P r s H fun av => resAll P s H rs fun xs => K (av :: xs) := h0
  obtain ⟨av, hK, hr⟩ := resOne_sound h
  obtain ⟨l, hK2, hl, hrs⟩ := resAll_sound hK
  refine ⟨av :: l, hK2, by simp [hl], fun ρ S w tmps hs hrel => ?_⟩
  obtain ⟨v, hrun, hv⟩ := hr ρ S w tmps hs hrel
  obtain ⟨vs, hrun2, hvs⟩ := hrs ρ S w tmps hs hrel
  exact ⟨v :: vs, by simp only [List.mapM_cons, Sem.run_bind, hrun, Result.andThen_ok, hrun2, Sem.run_pure], hv, hvs⟩
theorem plainS_rel {ρ : List Loc} : ∀ {l : List AV} {xs vs : List Value}, plainS l = some xs → RelS ρ l vs → vs = xs
 | [], xs, [], h, _ => by simp [plainS] at h; exact h.symm
 | .c (.v x) :: l, xs, v :: vs, h, hr => by
  simp only [plainS] at h
  split at h
  ·rename_i ys hys
   obtain rfl := Option.some.inj h
   have h1 : v = x := hr.1
   rw [h1, plainS_rel hys hr.2]
  ·cases h
 | .c .any :: _, _, _, h, _ => by simp [plainS] at h
 | .c (.lp ..) :: _, _, _, h, _ => by simp [plainS] at h
 | .c (.sl ..) :: _, _, _, h, _ => by simp [plainS] at h
 | .agg _ :: _, _, _, h, _ => by simp [plainS] at h
 | [], _, _ :: _, _, hr => hr.elim
 | .c (.v _) :: _, _, [], _, hr => hr.elim
theorem results_eq (fn : Func) (tmps : Array Value) : results fn tmps = (do
  let vs ← fn.results.mapM (resSem tmps)
  pure (if h : vs.size = 1 then vs[0] else .tuple vs)) := by
 unfold results
 congr 1
theorem resK_sound {P : Program} {fn : Func} {s : List AV} {H : List Ent} {K : Out → Prop} (h : resK P fn.results.toList s H K) :
  ∃ out, K out ∧ ∀ (ρ : List Loc) (S : Nat → Prop) (w : World) (tmps : Array Value), Sat ρ S H w → RelS ρ s tmps.toList → ∃ v, (results fn tmps).run P w = .ok v w ∧ OutOk ρ out (.returned v) := by
 unfold resK at h
 split at h
 ·rename_i r hr
  obtain ⟨av, hK, hs⟩ := resOne_sound h
  refine ⟨.val av, hK, fun ρ S w tmps hsat hrel => ?_⟩
  obtain ⟨v, hrun, hv⟩ := hs ρ S w tmps hsat hrel
  refine ⟨v, ?_, ⟨v, rfl, hv⟩⟩
  have hfr : fn.results = #[r] := by rw [← Array.toArray_toList (xs := fn.results), hr]
  rw [results_eq, hfr, Sem.run_bind, Array.mapM_eq_mapM_toList]
  simp [hrun]
 ·rename_i hne
  obtain ⟨l, hK, hl, hs⟩ := resAll_sound h
  have key : ∀ (ρ : List Loc) (S : Nat → Prop) (w : World) (tmps : Array Value), Sat ρ S H w → RelS ρ s tmps.toList → ∃ vs, (results fn tmps).run P w = .ok (.tuple vs.toArray) w ∧ RelS ρ l vs := fun ρ S w tmps hsat hrel => by
   obtain ⟨vs, h1, hr⟩ := hs ρ S w tmps hsat hrel
   refine ⟨vs, ?_, hr⟩
   rw [results_eq, Sem.run_bind, Array.mapM_eq_mapM_toList, Sem.run_map, h1]
   have hlen : vs.length ≠ 1 := by
    intro e
    rw [← RelS_len hr, hl] at e
    match hq : fn.results.toList, e with
    | [r], _ => exact hne r hq
   simp only [Result.andThen_ok, Sem.run_pure]
   rw [dif_neg (by simpa using hlen)]
  split at hK
  ·rename_i xs hp
   refine ⟨_, hK, fun ρ S w tmps hsat hrel => ?_⟩
   obtain ⟨vs, h1, hr⟩ := key ρ S w tmps hsat hrel
   rw [plainS_rel hp hr] at h1
   exact ⟨_, h1, _, rfl, rfl⟩
  ·refine ⟨_, hK, fun ρ S w tmps hsat hrel => ?_⟩
   obtain ⟨vs, h1, hr⟩ := key ρ S w tmps hsat hrel
   exact ⟨_, h1, vs, rfl, hr⟩
theorem spec_of_exec {P : Program} (hm : P.follows .mixedOrders = true) {f : FuncId} {fn : Func} {c : Code} (hf : P.funcs[f]? = some fn) (hn : (fn.name == "runtime.NumGoroutine") = false) (hb : fn.body = some c)
  {args : List AV} (hl : Nat.ble args.length fn.ntmps = true) {H : List Ent} {K : Out → List Ent → Prop} (h : initK fn.ntmps args fun s => exec P c s H (endK P fn.results.toList K)) : SpecH P f args H K := by
 refine ⟨⟨fn, hf, hn, by rw [hb]; rfl⟩, fun ρ S w vs hs hr => ?_⟩
 have hvl := RelS_len hr
 obtain ⟨s0, h, hs0⟩ := initK_rel h (Nat.le_of_ble_eq_true hl)
 have hinit : RelS ρ s0 (vs.toArray ++ Array.replicate (fn.ntmps - vs.toArray.size) undef).toList := by
  have := hs0 ρ vs hr
  simpa [hvl] using this
 refine calls_of_wp hf hb (wp_mono (exec_sound hm c _ H _ h ρ S w ⟨_, []⟩ hs hinit) ?_)
 ·intro e a w' hp
  obtain ⟨ρ1, S1, s1, H1, ex, hs1, hev, hr1, hd, hex, hK⟩ := hp
  have fin : RelS ρ1 s1 a.tmps.toList → ∀ {K' : Out → Prop}, resK P fn.results.toList s1 H1 K' → (∀ out, K' out → K out H1) → ∃ v, (results fn a.tmps).run P w' = .ok v w' ∧
    ∃ ρ' S' H' out, Sat ρ' S' H' w' ∧ Ev ρ S H w ρ' S' H' w' ∧ OutOk ρ' out (.returned v) ∧ K out H' := fun hr2 {_} hK1 hK2 => by
   obtain ⟨out, hK3, hres⟩ := resK_sound hK1
   obtain ⟨v, hrun, hv⟩ := hres ρ1 S1 w' a.tmps hs1 hr2
   exact ⟨v, hrun, ρ1, S1, H1, out, hs1, hev, hv, hK2 out hK3⟩
  cases ex with
  | normal =>
   cases e <;> first | exact hex.elim | skip
   obtain ⟨v, hrun, hR⟩ := fin hr1 (K' := fun out => K out H1) hK fun _ h => h
   exact ⟨hd, v, hrun, hR⟩
  | ret =>
   cases e <;> first | exact hex.elim | skip
   obtain ⟨v, hrun, hR⟩ := fin hr1 (K' := fun out => K out H1) hK fun _ h => h
   exact ⟨hd, v, hrun, hR⟩
  | exit n => exact hK.elim
  | pan ch =>
   cases e <;> first | exact hex.elim | skip
   have : ch = _ := hex
   subst this
   exact ⟨hd, ρ1, S1, H1, .pan ch, hs1, hev, rfl, hK⟩
end Go.AX
namespace Go.AX
def Ret (x : Value) (H : List Ent) : Out → List Ent → Prop := fun out H' => out = .val (.c (.v x)) ∧ H' = H
def RetR (R : Value → Prop) (H : List Ent) : Out → List Ent → Prop := fun out H' => ∃ x, out = .val (.c (.v x)) ∧ R x ∧ H' = H
theorem Sat.nil (w : World) : Sat [] (fun _ => False) [] w :=
 ⟨rfl, fun i e he => by simp at he, fun i j e f b he => by simp at he, fun b _ h => h, fun b h => h.elim⟩
theorem RelS_pvs {ρ : List Loc} : ∀ {xs vs : List Value}, RelS ρ (pvs xs) vs → vs = xs
 | [], [], _ => rfl
 | x :: xs, v :: vs, h => by
  have h1 : v = x := h.1
  rw [h1, RelS_pvs (xs := xs) h.2]
 | [], _ :: _, h => h.elim
 | _ :: _, [], h => h.elim
theorem mb_nil (ρ : List Loc) (b : Nat) : ¬ mb ρ [] b := fun ⟨i, e, he, _⟩ => by simp at he
theorem SpecH.frame {P : Program} {f : FuncId} {xs : List Value} {R : Value → Prop} (h : SpecH P f (pvs xs) [] fun out _ => ∃ x, out = .val (.c (.v x)) ∧ R x) (H : List Ent) : SpecH P f (pvs xs) H (RetR R H) := by
 refine ⟨h.ok, fun ρ S w vs hs hr => ?_⟩
 have hv := RelS_pvs hr
 subst hv
 refine (h.run [] (fun _ => False) w vs (Sat.nil w) (pvs_rel [] vs)).mono fun e w' ⟨ρ', S', H', out, hs', hev, hout, x, hx, hR⟩ => ?_
 subst hx
 obtain ⟨v, rfl, hv⟩ := hout
 have : v = x := hv
 subst this
 have hk : ∀ b, b < w.heap.size → w'.heap[b]? = w.heap[b]? := fun b hb => hev.keep b hb (mb_nil [] b)
 refine ⟨ρ, S, H, .val (.c (.v v)), ⟨hs.len, fun i e he => ?_, hs.inj, hs.out, fun b hb => Nat.lt_of_lt_of_le (hs.low b hb) hev.size⟩,
  ⟨⟨[], by simp⟩, hev.os, hev.tape, hev.output, hev.size, fun b hb _ => hk b hb, fun b hb => .inl hb, fun b hb => .inl hb⟩, ⟨v, rfl, rfl⟩, v, rfl, hR, rfl⟩
 have := (hs.ent i e he).move (w' := w') [] (fun b hb => hk _ (hs.blk_lt he hb)) fun b hb => hk b (hs.low b hb)
 simpa using this
theorem pureC {P : Program} (hm : P.follows .mixedOrders = true) {f : FuncId} {fn : Func} {c : Code} (hf : P.funcs[f]? = some fn) (hn : (fn.name == "runtime.NumGoroutine") = false) (hb : fn.body = some c)
  {xs : List Value} (hl : Nat.ble (pvs xs).length fn.ntmps = true) {r : Value} (h : initK fn.ntmps (pvs xs) fun s => exec P c s [] (endK P fn.results.toList fun out _ => out = .val (.c (.v r)))) (H : List Ent) : SpecH P f (pvs xs) H (Ret r H) :=
 ((spec_of_exec hm hf hn hb hl h).mono fun out _ ho => ⟨r, ho, rfl⟩ : SpecH P f (pvs xs) [] fun out _ => ∃ x, out = .val (.c (.v x)) ∧ x = r).frame H |>.mono fun _ _ ⟨_, ho, hx, hH⟩ => ⟨by rw [ho, hx], hH⟩
theorem call1 {P : Program} {f : FuncId} {args : List AV} {H : List Ent} {x : Value} {K : Out → List Ent → Prop} (h : SpecH P f args H (Ret x H)) (hk : K (.val (.c (.v x))) H) : SpecH P f args H K :=
 h.mono fun _ _ ⟨ho, hH⟩ => by rw [ho, hH]; exact hk
theorem brd_dec {p : Prop} [Decidable p] {A B : Prop} (hA : p → A) (hB : ¬ p → B) : brd (decide p) A B :=
 brd_intro (fun h => hA (of_decide_eq_true h)) fun h => hB (of_decide_eq_false h)
theorem brd_ne {a b : Int} {A B : Prop} (hA : ¬ a = b → A) (hB : a = b → B) : brd (a != b) A B :=
 brd_intro (fun h => hA (by simpa using h)) fun h => hB (by simpa using h)
theorem wrap_eq (x : Int) : IntKind.wrap .i64 x = if x % 18446744073709551616 ≥ 9223372036854775808 then x % 18446744073709551616 - 18446744073709551616 else x % 18446744073709551616 := by
 simp [IntKind.wrap, IntKind.bits, IntKind.signed]
theorem wrap_i64 {x : Int} (h : -9223372036854775808 ≤ x ∧ x < 9223372036854775808) : IntKind.wrap .i64 x = x := by
 rw [wrap_eq]
 split <;> omega
theorem wrap_u64_eq (x : Int) : IntKind.wrap .u64 x = x % 18446744073709551616 := by
 simp [IntKind.wrap, IntKind.bits, IntKind.signed]
theorem wrap_u64 {x : Int} (h : 0 ≤ x ∧ x < 18446744073709551616) : IntKind.wrap .u64 x = x := by rw [wrap_u64_eq]; omega
theorem wrap_u64_bd (x : Int) : 0 ≤ IntKind.wrap .u64 x ∧ IntKind.wrap .u64 x < 18446744073709551616 := by rw [wrap_u64_eq]; omega
theorem wkC_refl (c : CV) : wkC c c := by cases c <;> simp [wkC]
theorem wkCs_refl : ∀ cs : List CV, wkCs cs cs
 | [] => trivial
 | c :: cs => ⟨wkC_refl c, wkCs_refl cs⟩
theorem wkE_refl (e : Ent) : wkE e e := by
 cases e with
 | blk T cs => exact ⟨rfl, wkCs_refl cs⟩
 | row T a n cs => exact ⟨rfl, rfl, rfl, rfl⟩
 | fact F => exact fun _ h => h
 | fz => exact ⟨rfl, rfl, rfl, rfl, rfl, rfl⟩
 | app => exact .inl ⟨rfl, rfl, rfl, rfl, rfl, rfl⟩
 | mp => exact ⟨rfl, rfl, rfl⟩
 | fam => exact ⟨fun _ => Iff.rfl, fun _ h => h⟩
 | dead => trivial
theorem wkH_pre : ∀ (H X : List Ent), wkH (H ++ X) H
 | [], _ => by simp [wkH]
 | e :: H, X => ⟨wkE_refl e, wkH_pre H X⟩
theorem wkH_refl (H : List Ent) : wkH H H := by simpa using wkH_pre H []
def okHB (n : Nat) : List Ent → Bool
 | [] => true
 | .blk _ cs :: H => match okCsB n cs with | true => okHB n H | false => false
 | .row _ _ _ cs :: H => match okCsB n cs with | true => okHB n H | false => false
 | _ :: H => okHB n H
theorem okHB_eq {n : Nat} : ∀ {H : List Ent}, okHB n H = true → okH n H
 | [], _ => trivial
 | .blk _ cs :: H, h => by
  simp only [okHB] at h
  split at h
  ·rename_i hc; exact ⟨okCsB_eq hc, okHB_eq h⟩
  ·cases h
 | .row _ _ _ cs :: H, h => by
  simp only [okHB] at h
  split at h
  ·rename_i hc; exact ⟨okCsB_eq hc, okHB_eq h⟩
  ·cases h
 | .fact _ :: H, h => ⟨trivial, okHB_eq (H := H) h⟩
 | .fz .. :: H, h => ⟨trivial, okHB_eq (H := H) h⟩
 | .app .. :: H, h => ⟨trivial, okHB_eq (H := H) h⟩
 | .mp .. :: H, h => ⟨trivial, okHB_eq (H := H) h⟩
 | .fam .. :: H, h => ⟨trivial, okHB_eq (H := H) h⟩
 | .dead :: H, h => ⟨trivial, okHB_eq (H := H) h⟩
theorem loopS {E : List AV → List Ent → (Ex → List AV → List Ent → Prop) → Prop} {s : List AV} {H : List Ent} {K : Ex → List AV → List Ent → Prop}
  (ι : Type) (inv : ι → Prop) (sl : ι → List AV) (μ : ι → Nat) (okh : okHB H.length H = true) (oks : ∀ i, okSB H.length (sl i) = true)
  (i0 : ι) (h0 : inv i0) (start : wkS s (sl i0))
  (round : ∀ i, inv i → forceS (sl i) fun s => E s H fun e s' H' => match e with
    | .normal => ∃ j, inv j ∧ μ j < μ i ∧ wkS s' (sl j) ∧ wkH H' H
    | .exit n => K (.exit n) s' H'
    | .ret => K .ret s' H'
    | .pan c => K (.pan c) s' H') : LoopN E s H K :=
 .intro ι inv sl (fun _ => H) μ [] rfl (fun _ => by simp) (by simpa using oks) (fun _ _ => by simpa using okHB_eq okh) ⟨i0, h0, start, by simpa using wkH_refl H⟩ fun i hi => by
  rw [forceS_eq, forceH_eq]
  have := round i hi
  rw [forceS_eq] at this
  exact this
theorem av_int {k : IntKind} {a b : Int} (h : a = b) : AV.c (.v (.int k a)) = AV.c (.v (.int k b)) := by rw [h]
end Go.AX
namespace Go.AX
theorem VrN.norm {n m : Int} {K : Int → Prop} (h : n = m) (hk : K m) : VrN n K := .keep (by rw [h]; exact hk)
end Go.AX
