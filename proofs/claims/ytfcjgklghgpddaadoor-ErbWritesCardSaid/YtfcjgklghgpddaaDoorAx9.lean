/-
  AX, ninth text: operations in a row; regions that draw their order.
-/
import Derived.Test.YtfcjgklghgpddaaDoorAx8
namespace Go.AX

theorem setK_spec : ∀ {s : List AV} {i : Nat} {v : AV} {K : List AV → Prop}, setK s i v K → i < s.length ∧ K (s.set i v)
  | [], _, _, _, h => h.elim
  | _ :: _, 0, _, _, h => ⟨by simp, h⟩
  | _ :: s, i + 1, v, K, h => by
    have := setK_spec (s := s) (i := i) h
    exact ⟨by simp [this.1], by simpa using this.2⟩
theorem RelS_len {ρ : List Loc} : ∀ {cs : List AV} {xs : List Value}, RelS ρ cs xs → cs.length = xs.length
  | [], [], _ => rfl
  | _ :: _, _ :: _, h => by simp [RelS_len h.2]
  | [], _ :: _, h => h.elim
  | _ :: _, [], h => h.elim
theorem RelS_set {ρ : List Loc} : ∀ {s : List AV} {xs : List Value} {i : Nat} {av : AV} {v : Value}, RelS ρ s xs → av.rel ρ v → RelS ρ (s.set i av) (xs.set i v)
  | [], [], _, _, _, _, _ => by simp [RelS]
  | _ :: _, _ :: _, 0, _, _, h, k => ⟨k, h.2⟩
  | _ :: _, _ :: _, i + 1, _, _, h, k => ⟨h.1, RelS_set h.2 k⟩
  | [], _ :: _, _, _, _, h, _ => h.elim
  | _ :: _, [], _, _, _, h, _ => h.elim
theorem nth_get {ρ : List Loc} : ∀ {s : List AV} {xs : List Value} {d : Nat} {x : Value}, RelS ρ s xs → nth s d = .c (.v x) → xs[d]? = some x
  | [], [], _, _, _, h => by simp [nth] at h
  | _ :: _, _ :: _, 0, _, r, h => by
    simp only [nth] at h
    have h1 := r.1
    rw [h] at h1
    have : _ = _ := h1
    simp [this]
  | _ :: _, _ :: _, d + 1, _, r, h => by
    simp only [nth] at h
    simpa using nth_get r.2 h
  | [], _ :: _, _, _, r, _ => r.elim
  | _ :: _, [], _, _, r, _ => r.elim
theorem set_same : ∀ {xs : List Value} {d : Nat} {x : Value}, xs[d]? = some x → xs.set d x = xs
  | [], _, _, h => by simp at h
  | _ :: _, 0, _, h => by simp at h; simp [h]
  | _ :: xs, d + 1, x, h => by simp at h; simp [set_same (xs := xs) h]

theorem putK_spec {s : List AV} {d : Option Nat} {av : AV} {K : List AV → Prop} (h : putK s d av K) :
    ∃ s', K s' ∧ ∀ (ρ : List Loc) (a : Act) (v : Value), RelS ρ s a.tmps.toList → av.rel ρ v → RelS ρ s' (a.put d v).tmps.toList := by
  cases d with
  | none => exact ⟨s, h, fun ρ a v hr _ => hr⟩
  | some d =>
    obtain ⟨_, h⟩ := setK_spec h
    exact ⟨_, h, fun ρ a v hr hv => by simpa [Act.put, Array.toList_setIfInBounds] using RelS_set (i := d) hr hv⟩
theorem put_defers (a : Act) (d : Option Nat) (v : Value) : (a.put d v).defers = a.defers := by cases d <;> rfl

theorem wantK_spec {ops : Array Oper} {o : Oper} {s : List AV} {A B : List AV → Prop} (h : wantK ops o s A B) {ρ : List Loc} {a : Act} (hr : RelS ρ s a.tmps.toList) :
    (Region.wanted o (yielded ops a.tmps) = true ∧ ∃ s', A s' ∧ RelS ρ s' a.tmps.toList) ∨ (Region.wanted o (yielded ops a.tmps) = false ∧ ∃ s', B s' ∧ RelS ρ s' a.tmps.toList) := by
  unfold wantK at h
  split at h
  · rename_i hg
    exact .inl ⟨by simp [Region.wanted, hg], s, h, hr⟩
  · rename_i j want hg
    split at h
    · exact h.elim
    · rename_i d hd
      split at h
      · rename_i b hb
        have hx := nth_get hr hb
        have hy : yielded ops a.tmps j = some b := by
          have : a.tmps[d]? = some (.bool b) := by simpa using hx
          simp [yielded, hd, this]
        have hset : ∀ t, b = t → RelS ρ (s.set d (.c (.v (.bool t)))) a.tmps.toList := fun t ht => by
          have := RelS_set (i := d) hr (av := .c (.v (.bool t))) (v := .bool t) rfl
          rw [set_same (by rw [hx, ht])] at this
          exact this
        have hw : Region.wanted o (yielded ops a.tmps) = (b == want) := by
          simp only [Region.wanted, hg, hy]
          cases b <;> cases want <;> rfl
        rw [hw]
        cases b
        · have h1 := (setK_spec (brd_false h rfl)).2
          cases want
          · exact .inl ⟨rfl, _, h1, hset _ rfl⟩
          · exact .inr ⟨rfl, _, h1, hset _ rfl⟩
        · have h1 := (setK_spec (brd_true h rfl)).2
          cases want
          · exact .inr ⟨rfl, _, h1, hset _ rfl⟩
          · exact .inl ⟨rfl, _, h1, hset _ rfl⟩
      · rename_i q hq
        have hx := nth_get hr hq
        have hy : yielded ops a.tmps j = none := by
          have : a.tmps[d]? = some (.tuple q) := by simpa using hx
          simp [yielded, hd, this]
        exact .inr ⟨by simp only [Region.wanted, hg, hy]; rfl, s, h, hr⟩
      · exact h.elim

theorem pvs_rel (ρ : List Loc) : ∀ xs : List Value, RelS ρ (pvs xs) xs
  | [] => trivial
  | _ :: xs => ⟨rfl, pvs_rel ρ xs⟩
theorem opvs_rel {ρ : List Loc} {s : List AV} {a : Act} (h : RelS ρ s a.tmps.toList) : ∀ l : List Operand, RelS ρ (opvs s l) (l.map a.eval)
  | [] => trivial
  | x :: l => ⟨opv_rel h x, opvs_rel h l⟩
theorem RelS_append {ρ : List Loc} : ∀ {cs ds : List AV} {xs ys : List Value}, RelS ρ cs xs → RelS ρ ds ys → RelS ρ (cs ++ ds) (xs ++ ys)
  | [], _, [], _, _, h => by simpa using h
  | _ :: _, _, _ :: _, _, h, k => ⟨h.1, RelS_append h.2 k⟩
  | [], _, _ :: _, _, h, _ => h.elim
  | _ :: _, _, [], _, h, _ => h.elim

theorem callK_spec {P : Program} {o : Oper} {s : List AV} {K : FuncId → List AV → Prop} (h : callK s o.op K) :
    ∃ f args, K f args ∧ ∀ (ρ : List Loc) (w : World) (a : Act), CallOk P f → RelS ρ s a.tmps.toList → ∃ vs, RelS ρ args vs ∧ (execOp a.eval o).run P w = .ok (.enter f vs.toArray) w := by
  unfold callK at h
  split at h
  · rename_i f args ts ho
    split at h
    · rename_i g first cap hf
      refine ⟨_, _, h, fun ρ w a hok hr => ?_⟩
      have hfr := opv_rel hr f
      rw [hf] at hfr
      have hfe : a.eval f = .func (.func g) first cap := hfr
      refine ⟨first.toList ++ args.toList.map a.eval ++ cap.toList, RelS_append (RelS_append (pvs_rel ρ _) (opvs_rel hr _)) (pvs_rel ρ _), ?_⟩
      obtain ⟨fn, h1, h2, h3⟩ := hok
      unfold execOp
      have hb : fn.body.isNone = false := by cases hfn : fn.body <;> simp_all
      simp only [ho, resolve, hfe, Deferred.ofValue, invoke, callFunc, Sem.run_bind, Sem.run_pure, Result.andThen_ok, run_program, h1, h2, hb, Bool.false_eq_true, if_false]
      congr 2
      apply Array.ext'
      simp
    · exact h.elim
  · exact h.elim

/-- One operation. -/
theorem step_sound {P : Program} {o : Oper} {s : List AV} {H : List Ent} {K : Out → List Ent → Prop} (h : stepK P o s H K) {ρ : List Loc} {S : Nat → Prop} {w : World} {a : Act} (hs : Sat ρ S H w) (hr : RelS ρ s a.tmps.toList)
    {next : Act → World → Prop} {Q : Exit → Act → World → Prop}
    (hv : ∀ ρ' S' H' w' av v, Sat ρ' S' H' w' → Ev ρ S H w ρ' S' H' w' → av.rel ρ' v → K (.val av) H' → next (a.put o.dst v) w')
    (hp : ∀ ρ' S' H' w' c, Sat ρ' S' H' w' → Ev ρ S H w ρ' S' H' w' → K (.pan c) H' → Q (.panic c) a w') (hn : ∀ l H', ¬ K (.vals l) H') : o.wp P a w next Q := by
  unfold stepK at h
  split at h
  · obtain ⟨av, hK, hrd⟩ := read_sound h
    obtain ⟨v, hrun, hrel⟩ := hrd ρ S w a hs hr
    unfold Oper.wp
    rw [hrun]
    exact hv ρ S H w av v hs (Ev.refl _ _ _ _) hrel hK
  · obtain ⟨av, H', hK, r, v, ρ', w', hrun, hrv, hs', hev, hrel⟩ := eff_sound h ρ S w a hs hr
    unfold Oper.wp
    rw [hrun]
    rcases hrv with rfl | ⟨rfl, rfl⟩
    · exact hv ρ' S H' w' av v hs' hev hrel hK
    · exact hv ρ' S H' w' av _ hs' hev hrel hK
  · obtain ⟨f, args, hspec, hcall⟩ := callK_spec (P := P) h
    obtain ⟨vs, hvs, hrun⟩ := hcall ρ w a hspec.ok hr
    unfold Oper.wp
    rw [hrun]
    refine (hspec.run ρ S w vs hs hvs).mono fun e w' ⟨ρ', S', H', out, hs', hev, hout, hK⟩ => ?_
    cases out with
    | val av =>
      obtain ⟨v, rfl, hrel⟩ := hout
      exact hv ρ' S' H' w' av v hs' hev hrel hK
    | vals l => exact absurd hK (hn l H')
    | pan c =>
      have : e = .panicked c := hout
      subst this
      exact hp ρ' S' H' w' c hs' hev hK

def exOk : Ex → Exit → Prop
  | .normal, .normal => True
  | .exit n, .exit m => n = m
  | .ret, .ret => True
  | .pan c, .panic d => c = d
  | _, _ => False

/-- Behind a panic nothing is said of the slots. -/
def relX (ex : Ex) (ρ : List Loc) (s : List AV) (xs : List Value) : Prop :=
  match ex with
  | .pan _ => True
  | _ => RelS ρ s xs
theorem relX_of {ex : Ex} {ρ : List Loc} {s : List AV} {xs : List Value} (h : RelS ρ s xs) : relX ex ρ s xs := by cases ex <;> first | exact h | trivial

/-- What holds behind a piece of code. -/
def Post (ρ : List Loc) (S : Nat → Prop) (H : List Ent) (w : World) (dfs : List Deferred) (K : Ex → List AV → List Ent → Prop) (e : Exit) (a' : Act) (w' : World) : Prop :=
  ∃ ρ' S' s' H' ex, Sat ρ' S' H' w' ∧ Ev ρ S H w ρ' S' H' w' ∧ relX ex ρ' s' a'.tmps.toList ∧ a'.defers = dfs ∧ exOk ex e ∧ K ex s' H'

theorem Post.from {ρ ρ1 : List Loc} {S S1 : Nat → Prop} {H H1 : List Ent} {w w1 : World} {dfs : List Deferred} {K : Ex → List AV → List Ent → Prop} {e : Exit} {a' : Act} {w' : World}
    (hev : Ev ρ S H w ρ1 S1 H1 w1) (h : Post ρ1 S1 H1 w1 dfs K e a' w') : Post ρ S H w dfs K e a' w' := by
  obtain ⟨ρ', S', s', H', ex, h1, h2, h3, h4, h5, h6⟩ := h
  exact ⟨ρ', S', s', H', ex, h1, hev.trans h2, h3, h4, h5, h6⟩

theorem wpList_mono {P : Program} {ops : Array Oper} {Q Q' : Exit → Act → World → Prop} (hq : ∀ e a w, Q e a w → Q' e a w) : ∀ (l : List Oper) (a : Act) (w : World), wpList P ops Q l a w → wpList P ops Q' l a w
  | [], a, w, h => hq _ _ _ h
  | o :: l, a, w, h => by
    unfold wpList at h ⊢
    split at h
    · rename_i hw
      rw [if_pos hw]
      rcases h with h | ⟨h1, a0, w0, h2⟩
      · refine .inl ?_
        have h2 := Oper.wp_mono (K' := wpList P ops Q' l) (fun a w => wpList_mono hq l a w) h
        revert h2
        unfold Oper.wp
        generalize (execOp a.eval o).run P w = r
        intro h2
        cases r with
        | ok n w' =>
          cases n <;> simp only [Oper.upon] at h2 ⊢ <;> first
            | exact h2
            | exact h2.mono fun e w'' he => (by
                cases e with
                | returned v => exact he
                | panicked c => exact hq _ _ _ he
                | outgrown => obtain ⟨a0, w0, h0⟩ := he; exact ⟨a0, w0, hq _ _ _ h0⟩)
        | halt x w' => cases x <;> simp only [Oper.upon] at h2 ⊢ <;> exact hq _ _ _ h2
      · exact .inr ⟨h1, a0, w0, hq _ _ _ h2⟩
    · rename_i hw
      rw [if_neg hw]
      exact wpList_mono hq l _ _ h

theorem execOps_sound {P : Program} {ops : Array Oper} {K : Ex → List AV → List Ent → Prop} : ∀ (l : List Oper) (s : List AV) (H : List Ent), execOps P ops l s H K →
    ∀ (ρ : List Loc) (S : Nat → Prop) (w : World) (a : Act), Sat ρ S H w → RelS ρ s a.tmps.toList → wpList P ops (Post ρ S H w a.defers K) l a w
  | [], s, H, h, ρ, S, w, a, hs, hr => ⟨ρ, S, s, H, .normal, hs, Ev.refl _ _ _ _, hr, rfl, trivial, h⟩
  | o :: l, s, H, h, ρ, S, w, a, hs, hr => by
    rw [execOps_cons] at h
    unfold wpList
    rcases wantK_spec h hr with ⟨hw, s', h', hr'⟩ | ⟨hw, s', h', hr'⟩
    · rw [if_pos hw]
      refine .inl (step_sound h' hs hr' (fun ρ1 S1 H1 w1 av v hs1 hev hrel hK => ?_) (fun ρ1 S1 H1 w1 c hs1 hev hK => ?_) fun _ _ h => h)
      · obtain ⟨s2, hK2, hput⟩ := putK_spec hK
        have hrs : RelS ρ1 s' a.tmps.toList := by obtain ⟨t, ht⟩ := hev.pre; rw [ht]; exact RelS_pre t hr'
        have ih := execOps_sound l s2 H1 hK2 ρ1 S1 w1 (a.put o.dst v) hs1 (hput ρ1 a v hrs hrel)
        rw [put_defers] at ih
        exact wpList_mono (fun e a' w' hq => hq.from hev) l _ _ ih
      · exact ⟨ρ1, S1, s', H1, .pan c, hs1, hev, trivial, rfl, rfl, hK⟩
    · rw [if_neg (by simp [hw])]
      obtain ⟨s2, hK2, hput⟩ := putK_spec h'
      have ih := execOps_sound l s2 H hK2 ρ S w (a.put o.dst undef) hs (hput ρ a undef hr' rfl)
      rw [put_defers] at ih
      exact ih

/-! ### Regions that draw -/
theorem Sat.heap {ρ : List Loc} {S : Nat → Prop} {H : List Ent} {w w' : World} (h : Sat ρ S H w) (hh : w'.heap = w.heap) : Sat ρ S H w' :=
  ⟨h.len, fun i e he => by
    have := (h.ent i e he).move (w' := w') [] (fun _ _ => by rw [hh]) (fun b _ => by rw [hh])
    simpa using this, h.inj, h.out, fun b hb => by rw [hh]; exact h.low b hb⟩
theorem Ev.drew (ρ : List Loc) (S : Nat → Prop) (H : List Ent) (w : World) : Ev ρ S H w ρ S H { w with drawn := w.drawn + 1 } :=
  ⟨⟨[], by simp⟩, rfl, rfl, rfl, Nat.le_refl _, fun _ _ _ => rfl, fun _ h => .inl h, fun _ h => .inl h⟩

/-- The worlds that a state speaks of, from a given one on. -/
def Cls (ρ : List Loc) (S : Nat → Prop) (H : List Ent) (w w' : World) : Prop := ∃ S', Sat ρ S' H w' ∧ Ev ρ S H w ρ S' H w'

theorem detCs_uniq {ρ : List Loc} : ∀ {cs : List CV} {xs ys : List Value}, detCs cs = true → RelL ρ cs xs → RelL ρ cs ys → xs = ys
  | [], [], [], _, _, _ => rfl
  | c :: cs, x :: xs, y :: ys, h, r, q => by
    have key : detCs cs = true ∧ x = y := by
      cases c with
      | any => simp [detCs] at h
      | v z => exact ⟨h, (show x = z from r.1).trans (show y = z from q.1).symm⟩
      | lp i off =>
        obtain ⟨l, hl, hx⟩ := r.1
        obtain ⟨l', hl', hy⟩ := q.1
        have : l' = l := Option.some.inj (hl'.symm.trans hl)
        subst this
        exact ⟨h, hx.trans hy.symm⟩
      | sl i n =>
        obtain ⟨l, hl, hx⟩ := r.1
        obtain ⟨l', hl', hy⟩ := q.1
        have : l' = l := Option.some.inj (hl'.symm.trans hl)
        subst this
        exact ⟨h, hx.trans hy.symm⟩
    rw [key.2, detCs_uniq key.1 r.2 q.2]
  | [], _ :: _, _, _, r, _ => r.elim
  | _ :: _, [], _, _, r, _ => r.elim
  | [], [], _ :: _, _, _, q => q.elim
  | _ :: _, _ :: _, [], _, _, q => q.elim
theorem detA_uniq {ρ : List Loc} {av : AV} {x y : Value} (h : detA av = true) (r : av.rel ρ x) (q : av.rel ρ y) : x = y := by
  cases av with
  | agg cs =>
    obtain ⟨xs, rfl, hx⟩ := r
    obtain ⟨ys, rfl, hy⟩ := q
    rw [detCs_uniq h hx hy]
  | c c =>
    have : ∀ z w : Value, RelL ρ [c] [z] → RelL ρ [c] [w] → detCs [c] = true → z = w := fun z w h1 h2 h3 => by
      have := detCs_uniq h3 h1 h2; simpa using this
    refine this x y ⟨r, trivial⟩ ⟨q, trivial⟩ ?_
    cases c <;> first | rfl | cases h

theorem stepQ_sound {P : Program} {o : Oper} {s : List AV} {H : List Ent} {K : AV → Prop} (h : stepQ P o s H K) {ρ : List Loc} {S : Nat → Prop} {w : World} {a : Act} (hr : RelS ρ s a.tmps.toList) (h0 : ∃ w', Cls ρ S H w w') :
    ∃ av v, K av ∧ av.rel ρ v ∧ ∀ w', Cls ρ S H w w' → o.quietAt P a (Cls ρ S H w) w' v := by
  unfold stepQ at h
  split at h
  · obtain ⟨av, hK, hrd⟩ := read_sound h
    split at hK
    · rename_i hd
      obtain ⟨w0, S0, hs0, _⟩ := h0
      obtain ⟨v, _, hrel⟩ := hrd ρ S0 w0 a hs0 hr
      refine ⟨av, v, hK, hrel, fun w' ⟨S', hs', _⟩ => ?_⟩
      obtain ⟨v', hrun, hrel'⟩ := hrd ρ S' w' a hs' hr
      have := detA_uniq hd hrel hrel'
      subst this
      unfold Oper.quietAt
      rw [hrun]
      exact ⟨rfl, rfl⟩
    · exact hK.elim
  · obtain ⟨f, args, hq, hcall⟩ := callK_spec (P := P) h
    obtain ⟨x, hspec, hK⟩ := hq
    rw [forceV_eq] at hK
    refine ⟨_, x, hK, rfl, fun w' ⟨S', hs', hev'⟩ => ?_⟩
    obtain ⟨vs, hvs, hrun⟩ := hcall ρ w' a hspec.ok hr
    unfold Oper.quietAt
    rw [hrun]
    refine ⟨rfl, (hspec.run ρ S' w' vs hs' hvs).mono fun e w'' ⟨ρ2, S2, H2, out, hs2, hev2, hout, ho, hH⟩ => ?_⟩
    subst ho; subst hH
    obtain ⟨v, rfl, hrel⟩ := hout
    have hvx : v = x := hrel
    subst hvx
    have hρ : ρ2 = ρ := by
      obtain ⟨t, ht⟩ := hev2.pre
      have h1 := hs2.len
      have h2 := hs'.len
      have : t = [] := by
        apply List.eq_nil_of_length_eq_zero
        rw [ht] at h1; simp at h1; omega
      rw [ht, this, List.append_nil]
    subst hρ
    exact ⟨rfl, S2, hs2, hev'.trans hev2⟩
  · exact h.elim

theorem execQ_sound {P : Program} {ops : Array Oper} {H : List Ent} {K : List AV → Prop} {ρ : List Loc} {S : Nat → Prop} {w : World} (h0 : ∃ w', Cls ρ S H w w') : ∀ (l : List Oper) (s : List AV), execQ P ops l s H K →
    ∀ (a : Act), RelS ρ s a.tmps.toList → wpQuiet P ops (Cls ρ S H w) (fun a' => ∃ s', K s' ∧ RelS ρ s' a'.tmps.toList ∧ a'.defers = a.defers) l a
  | [], s, h, a, hr => ⟨s, h, hr, rfl⟩
  | o :: l, s, h, a, hr => by
    rw [execQ_cons] at h
    unfold wpQuiet
    rcases wantK_spec h hr with ⟨hw, s', h', hr'⟩ | ⟨hw, s', h', hr'⟩
    · rw [if_pos hw]
      obtain ⟨av, v, hK, hrel, hq⟩ := stepQ_sound h' hr' h0
      obtain ⟨s2, hK2, hput⟩ := putK_spec hK
      have ih := execQ_sound h0 l s2 hK2 (a.put o.dst v) (hput ρ a v hr' hrel)
      rw [put_defers] at ih
      exact ⟨v, hq, ih⟩
    · rw [if_neg (by simp [hw])]
      obtain ⟨s2, hK2, hput⟩ := putK_spec h'
      have ih := execQ_sound h0 l s2 hK2 (a.put o.dst undef) (hput ρ a undef hr' rfl)
      rw [put_defers] at ih
      exact ih

/-! ### Regions by a plan -/
theorem nthO_eq : ∀ (l : List Oper) (i : Nat), nthO l i = l[i]?
  | [], _ => by simp [nthO]
  | _ :: _, 0 => by simp [nthO]
  | _ :: l, i + 1 => by simp [nthO, nthO_eq l i]
theorem pickK_spec {ops : Array Oper} {k : Nat} {F : Oper → Prop} (h : pickK ops k F) : ∃ o, ops[k]? = some o ∧ F o := by
  unfold pickK at h
  rw [nthO_eq, Array.getElem?_toList] at h
  split at h
  · rename_i o ho; exact ⟨o, ho, h⟩
  · exact h.elim
/-- A blind operation yields its value in every world. -/
theorem blind_sound {P : Program} {o : Oper} {s : List AV} {K : AV → Prop} (h : blindK P o s K) {ρ : List Loc} {a : Act} (hr : RelS ρ s a.tmps.toList) : ∃ av v, K av ∧ av.rel ρ v ∧ ∀ w, (execOp a.eval o).run P w = .ok (.value v) w := by
  unfold blindK at h
  split at h
  · rename_i x ho
    rw [forceA_eq] at h
    exact ⟨_, _, h, opv_rel hr x, fun w => by unfold execOp; rw [ho]; rfl⟩
  · rename_i x ho
    have hk : K (opv s x) := by
      unfold asgK at h
      split at h
      · rw [forceA_eq] at h; exact h
      · split at h
        · rename_i hx
          obtain ⟨h⟩ := h
          rw [hx]; exact h
        · rw [forceA_eq] at h; exact h
    exact ⟨_, _, hk, opv_rel hr x, fun w => by unfold execOp; rw [ho]; rfl⟩
  · rename_i T x f ho
    have fin : ∀ (p : Addr) (fo : Nat) (w : World) (ev : Operand → Value), ev x = .pointer (some p) → fieldOff P T f = some fo → (execOp ev o).run P w = .ok (.value (.pointer (some (p.add fo)))) w := fun p fo w ev hx hfo => by
      unfold execOp
      simp only [ho, hx, Sem.run_bind, fieldOff_spec hfo w p, Result.andThen_ok, Sem.run_pure]
    have hxr := opv_rel hr x
    split at h
    · rename_i i off hx
      split at h
      · rename_i fo hfo
        rw [forceN_eq] at h
        rw [hx] at hxr
        obtain ⟨l, hl, he⟩ := hxr
        exact ⟨_, _, h, ⟨l, hl, rfl⟩, fun w => by rw [fin _ fo w _ he hfo, add_lit]⟩
      · exact h.elim
    · rename_i p hx
      split at h
      · rename_i fo hfo
        rw [forceN_eq] at h
        rw [hx] at hxr
        exact ⟨_, _, h, rfl, fun w => fin p fo w _ hxr hfo⟩
      · exact h.elim
    · exact h.elim
  · unfold genK at h
    split at h
    · exact h.elim
    · rename_i hsel
      split at h
      · rename_i hp
        split at h
        · rename_i v hv
          rw [forceV_eq] at h
          refine ⟨_, v, h, rfl, fun w => ?_⟩
          rw [execOp_congr o (fun cs b e => hsel cs b e) (ρ' := plainEv s) fun x hx => allPlain_eval hr _ hp x (Array.mem_toList_iff.2 hx)]
          exact pureRun_run P _ _ hv w
        · exact h.elim
      · exact h.elim

theorem Post.put {ρ : List Loc} {S : Nat → Prop} {H : List Ent} {w : World} {dfs : List Deferred} {K : Ex → List AV → List Ent → Prop} {c : List PanicEntry} {a : Act} {d : Option Nat} {v : Value} {w' : World} (h : Post ρ S H w dfs K (.panic c) (a.put d v) w') : Post ρ S H w dfs K (.panic c) a w' := by
  obtain ⟨ρ', S', s', H', ex, h1, h2, h3, h4, h5, h6⟩ := h
  cases ex with
  | pan c' => exact ⟨ρ', S', s', H', .pan c', h1, h2, trivial, by rw [put_defers] at h4; exact h4, h5, h6⟩
  | normal => exact h5.elim
  | ret => exact h5.elim
  | exit n => exact h5.elim

/-- A blind operation that may come up is taken first. -/
theorem take_blind {P : Program} {ops : Array Oper} {md : Region.Mode} {k : Nat} {o : Oper} {s : List AV} {ls : Array Bool} {fuel : Nat} {a : Act} {w : World} {Q : Exit → Act → World → Prop} {A B : List AV → Prop} (ho : ops[k]? = some o) (hsel : Region.noSelect ops = true) (hr1 : (Region.ready md ops ls).contains k = true) (hf : Region.free md ops ls k = true)
    (hQ : ∀ c a v w, Q (.panic c) (a.put o.dst v) w → Q (.panic c) a w) {ρ : List Loc} (hr : RelS ρ s a.tmps.toList)
    (h : wantK ops o s A B) (hA : ∀ s, A s → RelS ρ s a.tmps.toList → ∃ (av : AV) (v : Value), av.rel ρ v ∧ (∀ w, (execOp a.eval o).run P w = .ok (.value v) w) ∧ wpAny P md ops Q fuel (ls.setIfInBounds k true) (a.put o.dst v) w)
    (hB : ∀ s, B s → RelS ρ s a.tmps.toList → wpAny P md ops Q fuel (ls.setIfInBounds k true) (a.put o.dst undef) w) : wpAny P md ops Q (fuel + 1) ls a w := by
  rcases wantK_spec h hr with ⟨hw, s', h', hr'⟩ | ⟨hw, s', h', hr'⟩
  · obtain ⟨av, v, _, hrun, hn⟩ := hA s' h' hr'
    exact wpAny_take ho hsel hf hr1 (fun c a w => hQ c a v w) (.inl ⟨hw, hrun⟩) hn
  · exact wpAny_take ho hsel hf hr1 (fun c a w => hQ c a undef w) (.inr ⟨hw, rfl⟩) (hB s' h' hr')

theorem execB_sound {P : Program} {ops : Array Oper} {md : Region.Mode} {K : List AV → Prop} {Q : Exit → Act → World → Prop} {ρ : List Loc} {w : World} {g : Nat} (hsel : Region.noSelect ops = true) (hQ : ∀ c a d v w, Q (.panic c) (Act.put a d v) w → Q (.panic c) a w) {dfs : List Deferred} {ls2 : Array Bool}
    (next : ∀ s a, K s → RelS ρ s a.tmps.toList → a.defers = dfs → wpAny P md ops Q g ls2 a w) : ∀ (l : List Nat) (s : List AV) (ls : Array Bool) (a : Act), execB P ops l s K → preB md ops l ls = true → setAll ls l = ls2 → RelS ρ s a.tmps.toList → a.defers = dfs →
      wpAny P md ops Q (l.length + g) ls a w
  | [], s, ls, a, h, _, he, hr, hd => by
    have he' : ls = ls2 := he
    subst he'
    rw [List.length_nil, Nat.zero_add]; exact next s a h hr hd
  | k :: l, s, ls, a, h0, hB, he, hr, hd => by
    have h : pickK ops k fun o => wantK ops o s (fun s => blindK P o s fun av => putK s o.dst av fun s' => execB P ops l s' K) (fun s => putK s o.dst (.c (.v undef)) fun s' => execB P ops l s' K) := h0
    obtain ⟨o, ho, h⟩ := pickK_spec h
    simp only [preB, Bool.and_eq_true] at hB
    rw [List.length_cons, Nat.add_right_comm]
    refine take_blind ho hsel hB.1.1 hB.1.2 (fun c a v w => hQ c a o.dst v w) hr h (fun s' hA hr' => ?_) fun s' hB' hr' => ?_
    · obtain ⟨av, v, hK, hrel, hrun⟩ := blind_sound hA hr'
      obtain ⟨s2, hK2, hput⟩ := putK_spec hK
      exact ⟨av, v, hrel, hrun, execB_sound hsel hQ next l s2 _ _ hK2 hB.2 he (hput ρ a v hr' hrel) (by rw [put_defers]; exact hd)⟩
    · obtain ⟨s2, hK2, hput⟩ := putK_spec hB'
      exact execB_sound hsel hQ next l s2 _ _ hK2 hB.2 he (hput ρ a undef hr' rfl) (by rw [put_defers]; exact hd)
end Go.AX
