/-
  Lemmas (MD9 Ax54 D2 G1 MD10 MD7 Ax60 MC14 MD11 MC16 Ax59 MC15).
-/
import Derived.Scope
import Derived.Test.YtgogonnnojcioaaGreatDoorMba8
set_option linter.unusedVariables false
set_option linter.unusedSimpArgs false
namespace Go.Marshal
open Go.Core
def Tel {α : Type} (R : Except Int (α × St)) (v : α) (st : PS) : Prop := match R with
 | .ok (a, s) => v = a ∧ st = ofS s
 | .error e => st.e = e ∧ e ≠ 0
theorem Tel.live {α : Type} {R : Except Int (α × St)} {v : α} {st : PS} (h : Tel R v st) (h0 : st.e = 0) : R = .ok (v, toS st) := by
 cases R with
 | error e => exact absurd (h.1.symm.trans h0) h.2
 | ok p =>
  obtain ⟨a, s⟩ := p
  obtain ⟨rfl, h2⟩ := h
  rw [h2]
  rfl
theorem Tel.dead {α : Type} {R : Except Int (α × St)} {v : α} {st : PS} (h : Tel R v st) (hd : st.e ≠ 0) : R = .error st.e := by
 cases R with
 | error e => rw [h.1]
 | ok p =>
  obtain ⟨a, s⟩ := p
  exact absurd (by rw [h.2]; rfl) hd
theorem Tel.ok {α : Type} {v : α} {st : PS} (h0 : st.e = 0) : Tel (.ok (v, toS st)) v st := ⟨rfl, (ofS_toS h0).symm⟩
theorem Ref.tel {α : Type} {F : St → Except Int (α × St)} {M : PS → α × PS} (h : Ref F M) {st : PS} (h0 : st.e = 0) : Tel (F (toS st)) (M st).1 (M st).2 := by
 cases hr : F (toS st) with
 | error e => exact h.err st e h0 hr
 | ok p =>
  obtain ⟨a, s⟩ := p
  rw [h.ok st a s h0 hr]
  exact ⟨rfl, rfl⟩
theorem Tel.bnd {α β : Type} {R : Except Int (α × St)} {v : α} {st : PS} (h : Tel R v st) {G : α → St → Except Int (β × St)} {w : β} {st2 : PS} (hl : st.e = 0 → Tel (G v (toS st)) w st2) (hd : st.e ≠ 0 → st2.e = st.e) : Tel (Marshal.bnd R G) w st2 := by
 by_cases h0 : st.e = 0
 ·rw [h.live h0]
  exact hl h0
 ·rw [h.dead h0]
  exact ⟨hd h0, h0⟩
end Go.Marshal
namespace Go.Proofs.YtgogonnnojcioaaGreatDoor
open Go.AX Go.RowKit Go.Core Go.Marshal
set_option maxRecDepth 20000
structure OkD (st : PS) (p : RdP) : Prop where
 g : p.m.map (·.c) = st.g
 ga : p.ga = none → p.m = []
 ca : p.ca = none → st.cells = []
 sa : p.sa = none → st.ss = []
 sw : ∀ t ∈ st.ss, t.length ≤ 30000
 gx : p.ga = none ∨ ∃ b : Nat, p.ga = some ⟨b, 0, none⟩
theorem OkD.same {st st' : PS} {p : RdP} (ok : OkD st p) (h : st'.ss = st.ss ∧ st'.g = st.g ∧ st'.cells = st.cells) : OkD st' p :=
 ⟨by rw [h.2.1]; exact ok.g, ok.ga, by rw [h.2.2]; exact ok.ca, by rw [h.1]; exact ok.sa, by rw [h.1]; exact ok.sw, ok.gx⟩
abbrev plP (c : Cell) : CellP := ⟨c, none, 0, none, 0⟩
def addP (st : PS) (c : Cell) : PS := { st with g := st.g ++ [c] }
theorem OkD.add {st : PS} {p : RdP} (ok : OkD st p) (c : Cell) (b gc : Nat) : OkD (addP st c) { p with m := p.m ++ [plP c], ga := some ⟨b, 0, none⟩, gc := gc } :=
 ⟨by show (p.m ++ [plP c]).map (·.c) = st.g ++ [c]; rw [List.map_append, ok.g]; rfl, (fun h => by cases h), ok.ca, ok.sa, ok.sw, .inr ⟨b, rfl⟩⟩
end Go.Proofs.YtgogonnnojcioaaGreatDoor
namespace Go.AX
structure RowD where
 T : TypeId
 sz : Nat
 n : Nat
 xs : List Value
 b : Nat
 cap : Nat
def RowD.ok (r : RowD) (w : World) : Prop := RowF r.T r.sz r.n r.xs r.b r.cap w
def famB (l : List RowD) (b : Nat) : Prop := ∃ r ∈ l, r.b = b
def famF (l : List RowD) (w : World) : Prop := (l.map RowD.b).Nodup ∧ ∀ r ∈ l, r.ok w
def famE (l : List RowD) : Ent := .fam (famB l) (famF l)
theorem famF.imm {l : List RowD} {w : World} (h : famF l w) : Imm (famB l) w (famF l) :=
 ⟨h, fun _ hw => ⟨h.1, fun r hr => (h.2 r hr).move (hw r.b ⟨r, hr, rfl⟩)⟩⟩
theorem rowF_lt {T : TypeId} {sz n : Nat} {xs : List Value} {b cap : Nat} {w : World} (h : RowF T sz n xs b cap w) : b < w.heap.size := by
 obtain ⟨arr, fr, ⟨h1, _⟩, _⟩ := h
 exact (Array.getElem?_eq_some_iff.1 h1).1
theorem famE_ok {ρ : List Loc} {S : Nat → Prop} {w : World} {i : Nat} {l : List RowD} (h : famF l w) : EntOk ρ S w i (famE l) :=
 ⟨h.imm, fun _ ⟨r, hr, hb⟩ => hb ▸ rowF_lt (h.2 r hr)⟩
theorem famF_nil (w : World) : famF [] w := ⟨List.nodup_nil, fun r h => by cases h⟩
def TurnE (H G : List Ent) : Prop := G.length = H.length ∧ ∀ (ρ : List Loc) (S : Nat → Prop) (w : World), Sat ρ S H w → Sat ρ S G w ∧ Ev ρ S H w ρ S G w
theorem TurnE.s {H G : List Ent} (h : TurnE H G) : TurnS H G := ⟨h.1, fun ρ S w hs => ⟨S, h.2 ρ S w hs⟩⟩
theorem TurnE.refl (H : List Ent) : TurnE H H := ⟨rfl, fun _ _ _ hs => ⟨hs, Ev.refl _ _ _ _⟩⟩
theorem TurnE.trans {H G J : List Ent} (h : TurnE H G) (k : TurnE G J) : TurnE H J :=
 ⟨k.1.trans h.1, fun ρ S w hs => by
  obtain ⟨h1, e1⟩ := h.2 ρ S w hs
  obtain ⟨h2, e2⟩ := k.2 ρ S w h1
  exact ⟨h2, e1.trans e2⟩⟩
theorem TurnS.trans {H G J : List Ent} (h : TurnS H G) (k : TurnS G J) : TurnS H J :=
 ⟨k.1.trans h.1, fun ρ S w hs => by
  obtain ⟨S1, h1, e1⟩ := h.2 ρ S w hs
  obtain ⟨S2, h2, e2⟩ := k.2 ρ S1 w h1
  exact ⟨S2, h2, e1.trans e2⟩⟩
theorem Sat.two {ρ : List Loc} {S : Nat → Prop} {H : List Ent} {w : World} (h : Sat ρ S H w) {i j : Nat} {e f e' f' : Ent} (hi : H[i]? = some e) (hj : H[j]? = some f) (hne : i ≠ j)
  (hb : ∀ b, entB ρ i e' b ∨ entB ρ j f' b → entB ρ i e b ∨ entB ρ j f b) (hx : ∀ b, entB ρ i e' b → ¬ entB ρ j f' b) (ke : EntOk ρ S w i e') (kf : EntOk ρ S w j f') :
  Sat ρ S ((H.set i e').set j f') w ∧ Ev ρ S H w ρ S ((H.set i e').set j f') w := by
 have hil := (List.getElem?_eq_some_iff.1 hi).1
 have hjl := (List.getElem?_eq_some_iff.1 hj).1
 have hcase : ∀ (k : Nat) (g : Ent), ((H.set i e').set j f')[k]? = some g → (k = i ∧ g = e') ∨ (k = j ∧ g = f') ∨ (k ≠ i ∧ k ≠ j ∧ H[k]? = some g) := fun k g hk => by
  by_cases h2 : k = j
  ·subst h2
   rw [List.getElem?_set_self (by rw [List.length_set]; exact hjl)] at hk
   exact .inr (.inl ⟨rfl, (Option.some.inj hk).symm⟩)
  ·rw [List.getElem?_set_ne (fun e => h2 e.symm)] at hk
   by_cases h1 : k = i
   ·subst h1
    rw [List.getElem?_set_self hil] at hk
    exact .inl ⟨rfl, (Option.some.inj hk).symm⟩
   ·rw [List.getElem?_set_ne (fun e => h1 e.symm)] at hk
    exact .inr (.inr ⟨h1, h2, hk⟩)
 have hown : ∀ (k : Nat) (g : Ent) (b : Nat), ((H.set i e').set j f')[k]? = some g → entB ρ k g b → (k = i ∨ k = j) ∧ (entB ρ i e b ∨ entB ρ j f b) ∨ (k ≠ i ∧ k ≠ j ∧ H[k]? = some g) := fun k g b hk hg => by
  rcases hcase k g hk with ⟨rfl, rfl⟩ | ⟨rfl, rfl⟩ | h3
  ·exact .inl ⟨.inl rfl, hb b (.inl hg)⟩
  ·exact .inl ⟨.inr rfl, hb b (.inr hg)⟩
  ·exact .inr h3
 have hno : ∀ (k : Nat) (g : Ent) (b : Nat), k ≠ i → k ≠ j → H[k]? = some g → entB ρ k g b → ¬ (entB ρ i e b ∨ entB ρ j f b) := fun k g b h1 h2 hk hg hh => by
  rcases hh with hh | hh
  ·exact h1 (h.inj k i g e b hk hi hg hh)
  ·exact h2 (h.inj k j g f b hk hj hg hh)
 have hmb : ∀ b, mb ρ ((H.set i e').set j f') b → mb ρ H b := fun b ⟨k, g, hk, hg⟩ => by
  rcases hown k g b hk hg with ⟨_, h1 | h1⟩ | ⟨_, _, h1⟩
  ·exact ⟨i, e, hi, h1⟩
  ·exact ⟨j, f, hj, h1⟩
  ·exact ⟨k, g, h1, hg⟩
 refine ⟨⟨by rw [List.length_set, List.length_set]; exact h.len, fun k g hk => ?_, fun k l g g2 b hk hl hg hg2 => ?_, fun b hb => h.out b (hmb b hb), h.low⟩, ⟨⟨[], by simp⟩, rfl, rfl, rfl, Nat.le_refl _, fun _ _ _ => rfl, fun _ h => .inl h, fun b hb => .inl (hmb b hb)⟩⟩
 ·rcases hcase k g hk with ⟨rfl, rfl⟩ | ⟨rfl, rfl⟩ | ⟨_, _, h3⟩
  ·exact ke
  ·exact kf
  ·exact h.ent k g h3
 ·rcases hcase k g hk with ⟨rfl, rfl⟩ | ⟨rfl, rfl⟩ | ⟨k1, k2, h3⟩ <;> rcases hcase l g2 hl with ⟨rfl, rfl⟩ | ⟨rfl, rfl⟩ | ⟨l1, l2, h4⟩
  ·rfl
  ·exact absurd hg2 (hx b hg)
  ·exact absurd (hb b (.inl hg)) (hno l g2 b l1 l2 h4 hg2)
  ·exact absurd hg (hx b hg2)
  ·rfl
  ·exact absurd (hb b (.inr hg)) (hno l g2 b l1 l2 h4 hg2)
  ·exact absurd (hb b (.inl hg2)) (hno k g b k1 k2 h3 hg)
  ·exact absurd (hb b (.inr hg2)) (hno k g b k1 k2 h3 hg)
  ·exact h.inj k l g g2 b h3 h4 hg hg2
theorem famPut {H : List Ent} (i j : Nat) {l l' : List RowD} {T : TypeId} {sz n b cap : Nat} {xs : List Value} (hi : nthE H i = some (famE l)) (hj : nthE H j = some (.app T sz xs (some ⟨b, 0, none⟩) n cap)) (hne : Nat.beq i j = false) (hp : (⟨T, sz, n, xs, b, cap⟩ :: l).Perm l') : TurnE H ((H.set i (famE l')).set j .dead) := by
 rw [nthE_eq] at hi hj
 refine ⟨by rw [List.length_set, List.length_set], fun ρ S w hs => ?_⟩
 have hF : famF l w := (hs.ent i _ hi).1.1
 have hij := Nat.ne_of_beq_eq_false hne
 rcases hs.ent j _ hj with ⟨h0, _⟩ | ⟨b', hb', hrow⟩
 ·cases h0
 cases hb'
 have hnb : b ∉ l.map RowD.b := fun hm => by
  obtain ⟨r, hr, hrb⟩ := List.mem_map.1 hm
  exact hij (hs.inj i j _ _ b hi hj ⟨r, hr, hrb⟩ rfl)
 have hF' : famF l' w := ⟨(hp.map RowD.b).nodup_iff.1 (List.nodup_cons.2 ⟨hnb, hF.1⟩), fun q hq => by
  rcases List.mem_cons.1 (hp.mem_iff.2 hq) with rfl | hq
  ·exact hrow
  ·exact hF.2 q hq⟩
 refine hs.two hi hj hij (fun c hc => ?_) (fun _ _ hb => hb) (famE_ok hF') trivial
 rcases hc with ⟨q, hq, hqb⟩ | hc
 ·rcases List.mem_cons.1 (hp.mem_iff.2 hq) with rfl | hq
  ·exact .inr (congrArg some hqb)
  ·exact .inl ⟨q, hq, hqb⟩
 ·exact hc.elim
theorem famNew {H : List Ent} (i : Nat) (hi : nthE H i = some .dead) : TurnE H (H.set i (famE [])) := by
 rw [nthE_eq] at hi
 refine ⟨by rw [List.length_set], fun ρ S w hs => ?_⟩
 have hget : ∀ (j : Nat) (f : Ent), (H.set i (famE []))[j]? = some f → f = famE [] ∨ H[j]? = some f := fun j f hf => by
  by_cases hj : i = j
  ·subst hj
   rw [List.getElem?_set_self (List.getElem?_eq_some_iff.1 hi).1] at hf
   exact .inl (Option.some.inj hf).symm
  ·rw [List.getElem?_set_ne hj] at hf
   exact .inr hf
 have hb : ∀ (j : Nat) (f : Ent) (b : Nat), (H.set i (famE []))[j]? = some f → entB ρ j f b → H[j]? = some f := fun j f b hf hfb => by
  rcases hget j f hf with rfl | h1
  ·obtain ⟨r, hr, _⟩ := hfb; cases hr
  ·exact h1
 have hmb : ∀ b, mb ρ (H.set i (famE [])) b → mb ρ H b := fun b ⟨j, f, hf, hfb⟩ => ⟨j, f, hb j f b hf hfb, hfb⟩
 exact ⟨⟨by simp [hs.len], fun j f hf => by
   rcases hget j f hf with rfl | h1
   ·exact famE_ok (famF_nil w)
   ·exact hs.ent j f h1,
  fun j k f g b hf hg hfb hgb => hs.inj j k f g b (hb j f b hf hfb) (hb k g b hg hgb) hfb hgb, fun b hbb => hs.out b (hmb b hbb), hs.low⟩,
  ⟨⟨[], by simp⟩, rfl, rfl, rfl, Nat.le_refl _, fun _ _ _ => rfl, fun _ h => .inl h, fun b hbb => .inl (hmb b hbb)⟩⟩
theorem SpecH.turnS {P : Program} {f : FuncId} {args : List AV} {H : List Ent} {K : Out → List Ent → Prop} {G : List Ent} (t : TurnS H G) (h : SpecH P f args G K) : SpecH P f args H K := by
 refine ⟨h.ok, fun ρ S w vs hs hr => ?_⟩
 obtain ⟨S', hs', hev⟩ := t.2 ρ S w hs
 exact (h.run ρ S' w vs hs' hr).mono fun e w' ⟨ρ2, S2, H2, out, a1, a2, a3, a4⟩ => ⟨ρ2, S2, H2, out, a1, hev.trans a2, a3, a4⟩
def Ent.bare : Ent → Bool
 | .app .. => true
 | .mp .. => true
 | .fam .. => true
 | .dead => true
 | _ => false
theorem EntOk.bare {ρ ρ' : List Loc} {S S' : Nat → Prop} {w : World} {i j : Nat} {e : Ent} (he : e.bare = true) (h : EntOk ρ S w i e) : EntOk ρ' S' w j e := by
 cases e <;> first | (cases he; done) | exact h
theorem entB_bare {ρ ρ' : List Loc} {i j b : Nat} {e : Ent} (he : e.bare = true) (h : entB ρ i e b) : entB ρ' j e b := by
 cases e <;> first | (cases he; done) | exact h
def appsK : List Ent → List Ent → (List Ent → Prop) → Prop
 | H, [], K => K H
 | H, e :: N, K => snocK H e 0 fun H' _ => appsK H' N K
theorem appsK_eq : ∀ (N H : List Ent) (K : List Ent → Prop), appsK H N K = K (H ++ N)
 | [], H, K => by simp [appsK]
 | e :: N, H, K => by
  unfold appsK
  rw [snocK_eq, appsK_eq N]
  simp
theorem factG {P : Program} {f : FuncId} {xs : List Value} {F : World → Prop} {ι : Type} {inv : ι → Prop} {val : ι → Value} {N : ι → List Ent} (hN : ∀ i, (N i).all Ent.bare = true)
  (h : SpecH P f (pvs xs) [.fact F] (RetG inv val fun i => .dead :: N i)) {H : List Ent} (hF : ∀ w, Facts H w → F w) {K : Out → List Ent → Prop} (hk : ∀ i, inv i → appsK H (N i) fun G => K (.val (.c (.v (val i)))) G) : SpecH P f (pvs xs) H K := by
 refine ⟨h.ok, fun ρ S w vs hs hr => ?_⟩
 have h0 : Sat [⟨0, 0⟩] (fun b => S b ∨ appB H b) [.fact F] w := by
  refine ⟨rfl, fun i e he => ?_, fun i j e f b he hf heo => ?_, fun b hb => ?_, fun b hb => ?_⟩
  ·match i, he with
   | 0, he => simp at he; subst he; exact hs.imm.mono hF
  ·match i, he with
   | 0, he => simp at he; subst he; exact heo.elim
  ·obtain ⟨i, e, he, ho⟩ := hb
   match i, he with
   | 0, he => simp at he; subst he; exact ho.elim
  ·rcases hb with hb | hb
   ·exact hs.low b hb
   ·obtain ⟨i, e, he, heb⟩ := appB_mb (ρ := ρ) hb
    exact hs.blk_lt he heb
 have nomb : ∀ b, ¬ mb [⟨0, 0⟩] [Ent.fact F] b := by
  rintro b ⟨i, e, he, ho⟩
  match i, he with
  | 0, he => simp at he; subst he; exact ho.elim
 obtain rfl := RelS_pvs hr
 refine (h.run _ _ w vs h0 (pvs_rel _ vs)).mono fun e w' ⟨ρ', S', H', out, hs', hev, hout, i, hi, ho, hH⟩ => ?_
 subst ho
 subst hH
 have hk := hk i hi
 rw [appsK_eq] at hk
 have hnew : ∀ (k : Nat) (g : Ent) (b : Nat), (N i)[k]? = some g → entB ρ' (k + 1) g b → w.heap.size ≤ b := fun k g b hg hb => (hev.own b ⟨k + 1, g, by simpa using hg, hb⟩).resolve_left (nomb b)
 have hbr : ∀ (k : Nat) (g : Ent), (N i)[k]? = some g → g.bare = true := fun k g hg => List.all_eq_true.1 (hN i) g (List.mem_of_getElem? hg)
 have hbel : ∀ b, b < w.heap.size → w'.heap[b]? = w.heap[b]? := fun b hb => hev.keep b hb (nomb b)
 have hcase : ∀ (k : Nat) (g : Ent), (H ++ N i)[k]? = some g → (k < H.length ∧ H[k]? = some g) ∨ (H.length ≤ k ∧ (N i)[k - H.length]? = some g) := fun k g hg => by
  by_cases hk : k < H.length
  ·rw [List.getElem?_append_left hk] at hg; exact .inl ⟨hk, hg⟩
  ·rw [List.getElem?_append_right (by omega)] at hg
   exact .inr ⟨by omega, hg⟩
 have hown : ∀ (k : Nat) (g : Ent) (b : Nat), (H ++ N i)[k]? = some g → entB (ρ ++ List.replicate (N i).length ⟨0, 0⟩) k g b → (k < H.length ∧ H[k]? = some g ∧ entB ρ k g b ∧ b < w.heap.size) ∨ (H.length ≤ k ∧ (N i)[k - H.length]? = some g ∧ entB ρ' (k - H.length + 1) g b ∧ w.heap.size ≤ b) := fun k g b hg hb => by
  rcases hcase k g hg with ⟨h1, h2⟩ | ⟨h1, h2⟩
  ·rw [entB_pre _ (by rw [hs.len]; exact h1)] at hb
   exact .inl ⟨h1, h2, hb, hs.blk_lt h2 hb⟩
  ·have h3 : entB ρ' (k - H.length + 1) g b := entB_bare (hbr _ g h2) hb
   exact .inr ⟨h1, h2, h3, hnew _ g b h2 h3⟩
 have hmb : ∀ b, mb (ρ ++ List.replicate (N i).length ⟨0, 0⟩) (H ++ N i) b → mb ρ H b ∨ w.heap.size ≤ b := fun b ⟨k, g, hg, hb⟩ => by
  rcases hown k g b hg hb with ⟨_, h2, h3, _⟩ | ⟨_, _, _, h4⟩
  ·exact .inl ⟨k, g, h2, h3⟩
  ·exact .inr h4
 refine ⟨ρ ++ List.replicate (N i).length ⟨0, 0⟩, S, H ++ N i, .val (.c (.v (val i))), ⟨by simp [hs.len], fun k g hg => ?_, fun k l g g2 b hg hg2 hb hb2 => ?_, fun b hb hS => ?_, fun b hb => Nat.lt_of_lt_of_le (hs.low b hb) hev.size⟩, ⟨⟨_, rfl⟩, hev.os, hev.tape, hev.output, hev.size, fun b hb _ => hbel b hb, fun b hb => .inl hb, hmb⟩, hout, hk⟩
 ·rcases hcase k g hg with ⟨h1, h2⟩ | ⟨h1, h2⟩
  ·exact (hs.ent k g h2).move _ (fun b hb => hbel b (hs.blk_lt h2 hb)) fun b hb => hbel b (hs.low b hb)
  ·exact EntOk.bare (hbr _ g h2) (hs'.ent (k - H.length + 1) g (by simpa using h2))
 ·rcases hown k g b hg hb with ⟨_, h2, h3, h4⟩ | ⟨h1, h2, h3, h4⟩ <;> rcases hown l g2 b hg2 hb2 with ⟨_, k2, k3, k4⟩ | ⟨k1, k2, k3, k4⟩
  ·exact hs.inj k l g g2 b h2 k2 h3 k3
  ·omega
  ·omega
  ·have := hs'.inj (k - H.length + 1) (l - H.length + 1) g g2 b (by simpa using h2) (by simpa using k2) h3 k3
   omega
 ·rcases hmb b hb with h1 | h1
  ·exact hs.out b h1 hS
  ·have := hs.low b hS; omega
end Go.AX
namespace Go.Proofs.YtgogonnnojcioaaGreatDoor
open Go.AX Go.RowKit Go.Core
set_option maxRecDepth 20000
def rowsP (p : CellP) : List RowD :=
 (match p.na with | some ad => [⟨9, 1, p.c.names.length, strC p.c.names, ad.block, p.nc⟩] | none => []) ++ (match p.ia with | some ad => [⟨3, 1, p.c.items.length, iC p.c.items, ad.block, p.ic⟩] | none => [])
def rowsG (m : List CellP) : List RowD := m.flatMap rowsP
theorem rowsG_snoc (m : List CellP) (p : CellP) : rowsG (m ++ [p]) = rowsG m ++ rowsP p := by unfold rowsG; rw [List.flatMap_append]; simp
structure OwnP (p : CellP) : Prop where
 na : ∀ ad, p.na = some ad → ad = ⟨ad.block, 0, none⟩
 ia : ∀ ad, p.ia = some ad → ad = ⟨ad.block, 0, none⟩
theorem rowF_sl {T : TypeId} {sz n : Nat} {xs : List Value} {b cap : Nat} {w : World} (h : RowF T sz n xs b cap w) : SlAt (some ⟨b, 0, none⟩) (n * sz) xs w := h.sl
theorem cellF_rows {p : CellP} (ho : CellOk p) (hw : OwnP p) {w : World} (h : ∀ r ∈ rowsP p, r.ok w) : CellF p w := by
 refine ⟨?_, ?_⟩
 ·cases hn : p.na with
  | none => rw [ho.na hn]; exact SlAt.nil
  | some ad =>
   rw [hw.na ad hn]
   exact rowF_sl (h ⟨9, 1, p.c.names.length, strC p.c.names, ad.block, p.nc⟩ (by unfold rowsP; rw [hn]; simp))
 ·cases hn : p.ia with
  | none => rw [ho.ia hn]; exact SlAt.nil
  | some ad =>
   rw [hw.ia ad hn]
   exact rowF_sl (h ⟨3, 1, p.c.items.length, iC p.c.items, ad.block, p.ic⟩ (by unfold rowsP; rw [hn]; simp))
theorem grF_rows {m : List CellP} (ho : ∀ p ∈ m, CellOk p) (hw : ∀ p ∈ m, OwnP p) {w : World} (h : famF (rowsG m) w) : ∀ p ∈ m, CellF p w := fun p hp =>
 cellF_rows (ho p hp) (hw p hp) fun r hr => h.2 r (List.mem_flatMap.2 ⟨p, hp, hr⟩)
def ownN (T : TypeId) (st : DSt) : List Ent := [.app T 5 (grC st.m) st.oa st.m.length st.oc, famE (rowsG st.m)]
structure OInv (l : List CellP) (st : DSt) : Prop where
 oa : st.oa = none → st.m = []
 c : st.m.map (·.c) = l.map (·.c)
 ok : ∀ p ∈ st.m, CellOk p
 own : ∀ p ∈ st.m, OwnP p
 cap : st.m.length ≤ st.oc
theorem OInv.gr {l : List CellP} {st : DSt} (h : OInv l st) {w : World} (h1 : SlAt st.oa (st.m.length * 5) (grC st.m) w) (h2 : famF (rowsG st.m) w) : GrF st.oa st.m w := ⟨h1, grF_rows h.ok h.own h2⟩
set_option maxHeartbeats 4000000 in
theorem as_o (a : Option Addr) (ca : Nat) (l : List CellP) (ha : a = none → l = []) (hs : Small l) (hok : ∀ p ∈ l, CellOk p) : SpecH Tryz.prog 32 (pvs [.slice a l.length ca]) [.fact (GrF a l)] (RetG (OInv l) (fun st => .slice st.oa st.m.length st.oc) (fun st => .dead :: ownN 87 st)) := by
 obtain ⟨hl, hsm⟩ := hs
 refine ownC hm Tryz.func32 (by kernel_rfl) rfl rfl (fun _ _ => okHB_eq rfl) (fun _ _ => by show 1 ≤ 3; decide) ?_
 refine wX ?_
 refine LoopN.introS DSt (fun st => DInv l st ∧ ∀ p ∈ st.m, OwnP p) (fun ⟨i, oa, oc, m⟩ => mkS 35 0 [(0, .c (.v (.slice a l.length ca))), (3, .c (.v (.slice oa m.length oc))), (4, .c (.v (.int .i64 (i : Int))))]) (fun ⟨i, oa, oc, m⟩ => [.fact (GrF a l), .app 87 5 (grC m) oa m.length oc, famE (rowsG m)]) (fun ⟨i, _, _, _⟩ => l.length - i) [.app 87 5 [] none 0 0, .dead] rfl (fun _ => rfl) (fun _ => rfl) (fun _ _ => ⟨trivial, trivial, trivial, trivial⟩) ?_ ?_
 ·refine ⟨⟨0, none, 0, []⟩, ⟨⟨Nat.zero_le _, rfl, (fun p h => by cases h), (fun _ => rfl), Nat.le_refl _⟩, fun p h => by cases h⟩, ?_, _, (famNew 2 rfl).s, ?_⟩
  ·exact wKK
  ·exact ⟨wkE_refl _, wkE_refl _, wkE_refl _, trivial⟩
 rintro ⟨i, oa, oc, m⟩ ⟨hinv, hom⟩
 have hml := hinv.len
 obtain ⟨hi, hmc, hmo, hoa, hoc⟩ := hinv
 refine wX ?_
 refine brd_dec (fun h1 => ?_) (fun h1 => ?_)
 ·obtain ⟨p, hp⟩ : ∃ p, l[i]? = some p := ⟨_, List.getElem?_eq_getElem (by omega)⟩
  have hpm := List.mem_of_getElem? hp
  have hpo := hok p hpm
  obtain ⟨hnl, hil⟩ := hsm p hpm
  have hsa : a.isSome = true := by
   cases a with
   | none => rw [ha rfl] at hp; cases hp
   | some b => rfl
  refine wX ?_
  refine Nd.mk ⟨hsa, by omega, by omega⟩ ?_
  refine wX ?_
  refine LdN.agg (cellC p) rfl (fun w hw => hw.1.1) rfl (fun k hk => by rw [Int.toNat_natCast]; exact grC_get l i k hk hp) ?_
  refine wXB ?_
  refine BoxN.known [.int .i64 0, .int .i64 0, .string { data := #[] }, .slice none 0 0, .slice none 0 0] rfl fun cb => ?_
  refine wXB ?_
  refine EffW.appTo (i := 3) (q := 0) (ys := cellC p) (cellC p) 5 rfl rfl rfl rfl rfl rfl rfl (Nat.le_of_ble_eq_true rfl) rfl rfl ?_
  refine wXB ?_
  refine DrawN.planK hm (fun w => SlAt (some ⟨cb, 0, none⟩) 5 (cellC p) w) [7, 11] [0, 1, 3, 5, 8, 12] [(9, 1), (2, 1), (4, 1), (6, 1), (13, 1), (7, 2), (10, 0), (11, 2), (14, 0), (15, 0), (16, 0), (17, 0), (18, 0)] (by decide +kernel) (fun w hw => hw.2.2.2.1) ?_
  refine wXP ?_
  refine ReadC.one (a := some ⟨cb, 0, none⟩) (q := 3) (.slice p.na p.c.names.length p.nc) rfl rfl rfl (fun w hw => hw) rfl ?_
  refine wXP ?_
  refine ReadC.one (a := some ⟨cb, 0, none⟩) (q := 0) (.int .i64 p.c.kind) rfl rfl rfl (fun w hw => hw) rfl ?_
  refine wXP ?_
  refine ReadC.one (a := some ⟨cb, 0, none⟩) (q := 1) (.int .i64 p.c.num) rfl rfl rfl (fun w hw => hw) rfl ?_
  refine wXP ?_
  refine ReadC.one (a := some ⟨cb, 0, none⟩) (q := 2) (.string (bs p.c.text)) rfl rfl rfl (fun w hw => hw) rfl ?_
  refine wXP ?_
  refine ReadC.one (a := some ⟨cb, 0, none⟩) (q := 4) (.slice p.ia p.c.items.length p.ic) rfl rfl rfl (fun w hw => hw) rfl ?_
  refine wXP ?_
  intro nb
  refine wXP ?_
  refine app_any 4 [] (strC p.c.names) rfl (Nat.le_refl _) (fun h => by cases hq : p.na with | none => rw [hpo.na hq] at h; cases h | some b => rfl) (by show (strC p.c.names).length = p.c.names.length * 1; simp [strC]) (fun u hu => by obtain ⟨x, _, rfl⟩ := List.mem_map.1 hu; rfl) (fun w hw j v hv => (hw.1.2 p hpm).1.cell hv) ⟨⟨by show (0 + p.c.names.length) * 16 ≤ _; omega, by omega⟩, Nat.one_ne_zero⟩ fun nb2 nc2 hnc2 => ?_
  rw [Nat.zero_add, List.nil_append]
  refine wXP ?_
  intro ib
  refine wXP ?_
  refine app_any 5 [] (iC p.c.items) rfl (Nat.le_refl _) (fun h => by cases hq : p.ia with | none => rw [hpo.ia hq] at h; cases h | some b => rfl) (by show (iC p.c.items).length = p.c.items.length * 1; simp [iC]) (fun u hu => by obtain ⟨x, _, rfl⟩ := List.mem_map.1 hu; rfl) (fun w hw j v hv => (hw.1.2 p hpm).2.cell hv) ⟨⟨by show (0 + p.c.items.length) * 8 ≤ _; omega, by omega⟩, Nat.one_ne_zero⟩ fun ib2 ic2 hic2 => ?_
  rw [Nat.zero_add, List.nil_append]
  refine wXP ?_
  refine RwN.own ?_
  refine wXP ?_
  refine Nd.mk ⟨Nat.le_refl 1, rfl, rfl⟩ ?_
  (conv => whnf)
  refine AppN.grow 1 (grC m) (cellC ⟨p.c, some ⟨nb2, 0, none⟩, nc2, some ⟨ib2, 0, none⟩, ic2⟩) rfl rfl ⟨Nat.le_refl 1, ⟨by show (m.length + 1) * 80 ≤ _; omega, by omega⟩, by decide⟩ fun ob2 oc2 hoc2 _ => ?_
  refine wXP ?_
  have hm2 : m.length + 1 = (m ++ [(⟨p.c, some ⟨nb2, 0, none⟩, nc2, some ⟨ib2, 0, none⟩, ic2⟩ : CellP)]).length := by simp
  have hg2 := grC_snoc m ⟨p.c, some ⟨nb2, 0, none⟩, nc2, some ⟨ib2, 0, none⟩, ic2⟩
  have hrw := rowsG_snoc m ⟨p.c, some ⟨nb2, 0, none⟩, nc2, some ⟨ib2, 0, none⟩, ic2⟩
  refine ⟨⟨i + 1, some ⟨ob2, 0, none⟩, oc2, m ++ [⟨p.c, some ⟨nb2, 0, none⟩, nc2, some ⟨ib2, 0, none⟩, ic2⟩]⟩, ⟨⟨by omega, ?_, ?_, (fun h => by cases h), by omega⟩, ?_⟩, by show l.length - (i + 1) < l.length - i; omega, ?_, _, ((famPut 2 4 rfl rfl rfl (List.perm_append_singleton _ _).symm).trans (famPut 2 5 rfl rfl rfl (List.perm_append_singleton _ _).symm)).s, ?_⟩
  ·rw [List.take_add_one, hp, List.map_append, List.map_append, hmc]
   rfl
  ·intro q hq
   rcases List.mem_append.1 hq with hq | hq
   ·exact hmo q hq
   ·rw [List.mem_singleton.1 hq]
    exact ⟨(fun h => by cases h), (fun h => by cases h), hpo.nl, hpo.il, hpo.nw, hpo.tl, by show p.c.names.length ≤ nc2; omega, by show p.c.items.length ≤ ic2; omega⟩
  ·intro q hq
   rcases List.mem_append.1 hq with hq | hq
   ·exact hom q hq
   ·rw [List.mem_singleton.1 hq]
    exact ⟨fun ad h => by cases h; rfl, fun ad h => by cases h; rfl⟩
  ·(repeat' (first | exact trivial | refine And.intro (by with_reducible rfl) ?_ | (with_reducible exact wkC_refl _) | (with_reducible exact wkCs_refl _) | refine And.intro ?_ ?_))
   all_goals first | rfl | exact av_int (by omega) | (rw [hm2])
  ·show wkH _ [Ent.fact (GrF a l), .app 87 5 (grC (m ++ [_])) _ (m ++ [_]).length _, famE (rowsG (m ++ [_]))]
   rw [← hm2, hg2, hrw]
   refine ⟨wkE_refl _, wkE_refl _, ?_, trivial⟩
   rw [show rowsP (⟨p.c, some ⟨nb2, 0, none⟩, nc2, some ⟨ib2, 0, none⟩, ic2⟩ : CellP) = [⟨9, 1, p.c.names.length, strC p.c.names, nb2, nc2⟩] ++ [⟨3, 1, p.c.items.length, iC p.c.items, ib2, ic2⟩] from rfl, ← List.append_assoc]
   exact wkE_refl _
 ·have hil : i = l.length := by omega
  subst hil
  rw [List.take_length] at hmc
  refine wX ?_
  exact ⟨⟨l.length, oa, oc, m⟩, ⟨hoa, hmc, hmo, hom, hoc⟩, rfl, trivial, wkE_refl _, wkE_refl _, trivial⟩
structure GrwC (n : Nat) (p : CellP) : Prop where
 ok : CellOk p
 it : ∀ y ∈ p.c.items, 0 ≤ y
 il : p.c.items.length ≤ 4
 nl : p.c.names.length ≤ 2
 tl : p.c.text.length ≤ 2
theorem grw_plain (n : Nat) (k nu : Int) (t : List UInt8) (ht : t.length ≤ 2) : GrwC n ⟨⟨k, nu, t, [], []⟩, none, 0, none, 0⟩ :=
 ⟨⟨fun _ => rfl, fun _ => rfl, Nat.zero_le _, Nat.zero_le _, (fun s h => (by cases h)), (by show t.length ≤ _; omega), Nat.le_refl _, Nat.le_refl _⟩, (fun y h => (by cases h)), Nat.zero_le _, Nat.zero_le _, ht⟩
theorem grw_item (x : Int) (k d e n : Nat) (hx : 0 ≤ x ∧ x ≤ 2049638230412172402) (hk : k ≤ 3) (hd : 1 ≤ d) (he : e ≤ 10) : 0 ≤ (IntKind.i64.wrap (IntKind.u64.wrap (IntKind.u64.wrap (x.tdiv (d : Int)) + IntKind.u64.wrap (IntKind.u64.wrap (k : Int) * (e : Int))))).tmod (n : Int) := by
 have h1 : 0 ≤ x.tdiv (d : Int) ∧ x.tdiv (d : Int) ≤ x := by
  rw [Int.tdiv_eq_ediv_of_nonneg hx.1]
  exact ⟨Int.ediv_nonneg hx.1 (by omega), Int.ediv_le_self _ hx.1⟩
 have h2 : 0 ≤ (k : Int) * (e : Int) ∧ (k : Int) * (e : Int) ≤ 30 := by
  have := Nat.mul_le_mul hk he
  rw [← Int.natCast_mul]
  omega
 rw [wrap_u64 (x := x.tdiv (d : Int)) (by omega), wrap_u64 (x := (k : Int)) (by omega), wrap_u64 (x := (k : Int) * (e : Int)) (by omega), wrap_u64 (by omega), wrap_i64 (by omega)]
 exact Int.tmod_nonneg _ (by omega)
def setI (p : CellP) (its : List Int) (ia : Option Addr) (ic : Nat) : CellP := ⟨{ p.c with items := its }, p.na, p.nc, ia, ic⟩
theorem grC_set : ∀ {m : List CellP} {j : Nat} {p : CellP} (its : List Int) (ia : Option Addr) (ic : Nat), m[j]? = some p → (grC m).set (j * 5 + 4) (.slice ia its.length ic) = grC (m.set j (setI p its ia ic))
 | [], _, _, _, _, _, h => by cases h
 | q :: m, 0, p, its, ia, ic, h => by
  obtain rfl := Option.some.inj h
  rfl
 | q :: m, j + 1, p, its, ia, ic, h => by
  have ih := grC_set its ia ic (show m[j]? = some p from h)
  have e : ∀ q : CellP, grC (q :: m) = cellC q ++ grC m := fun q => by unfold grC; rw [List.flatMap_cons]
  rw [e, List.set_cons_succ, show (j + 1) * 5 + 4 = (j * 5 + 4) + 5 by omega]
  have e2 : grC (q :: m.set j (setI p its ia ic)) = cellC q ++ grC (m.set j (setI p its ia ic)) := by unfold grC; rw [List.flatMap_cons]
  rw [e2, ← ih]
  rfl
theorem SlAt.take {a : Option Addr} {k j : Nat} {xs : List Value} {w : World} (h : SlAt a k xs w) (hj : j ≤ k) : SlAt a j (xs.take j) w :=
 ⟨by rw [List.length_take, h.1]; omega, fun h0 => h.2.1 (by omega), fun i hi => by rw [h.2.2 i (by omega), List.getElem?_take_of_lt hi]⟩
theorem grw_set {n : Nat} {m : List CellP} (h : ∀ p ∈ m, GrwC n p) {j : Nat} {p : CellP} (hp : p ∈ m) {its : List Int} (b ic : Nat) (h0 : ∀ y ∈ its, 0 ≤ y) (hl : its.length ≤ 4) (hc : its.length ≤ ic) : ∀ q ∈ m.set j (setI p its (some ⟨b, 0, none⟩) ic), GrwC n q := fun q hq => by
 rcases List.mem_or_eq_of_mem_set hq with hq | rfl
 ·exact h q hq
 ·have g := h p hp
  exact ⟨⟨g.ok.na, (fun h => by cases h), g.ok.nl, (by show its.length ≤ _; omega), g.ok.nw, g.ok.tl, g.ok.nb, hc⟩, h0, hl, g.nl, g.tl⟩
theorem grw_small {n : Nat} {m : List CellP} (h : ∀ p ∈ m, GrwC n p) (hl : m.length ≤ 12) : Small m :=
 ⟨by omega, fun p hp => ⟨by have := (h p hp).nl; omega, by have := (h p hp).il; omega⟩⟩
theorem Valid_b (a : Option Addr) (ca : Nat) (l : List CellP) (ha : a = none → l = []) (hl : l.length ≤ 200000000000000) (hok : ∀ p ∈ l, CellOk p) :
  ∃ b : Bool, (b = true ↔ ValidP (l.map (·.c))) ∧ ∀ H, (∀ w, Facts H w → GrF a l w) → SpecH Tryz.prog 31 (pvs [.slice a l.length ca]) H (Ret (.bool b) H) := by
 obtain ⟨b, hb⟩ : ∃ b : Bool, b = true ↔ ValidP (l.map (·.c)) := by
  by_cases h : ValidP (l.map (·.c))
  ·exact ⟨true, fun _ => h, fun _ => rfl⟩
  ·exact ⟨false, (fun h => by cases h), fun h2 => absurd h2 h⟩
 refine ⟨b, hb, fun H hH => ?_⟩
 obtain ⟨b2, hb2, h⟩ := Valid_c a ca l ha hl hok H hH
 obtain rfl : b2 = b := by rw [Bool.eq_iff_iff, hb, hb2]
 exact h
theorem set_rows {m : List CellP} {j : Nat} {p : CellP} (hp : p ∈ m) {its : List Int} {ia : Option Addr} {ic : Nat} {w : World} (h : ∀ q ∈ m, CellF q w) (hi : SlAt ia (its.length * 1) (iC its) w) : ∀ q ∈ m.set j (setI p its ia ic), CellF q w := fun q hq => by
 rcases List.mem_or_eq_of_mem_set hq with hq | rfl
 ·exact h q hq
 ·exact ⟨(h p hp).1, hi⟩
theorem specFJ {P : Program} (hm : P.follows .mixedOrders = true) {f : FuncId} {fn : Func} {c : Code} (hf : P.funcs[f]? = some fn) (hn : (fn.name == "runtime.NumGoroutine") = false) (hb : fn.body = some c)
  {xs : List Value} (hl : Nat.ble (pvs xs).length fn.ntmps = true) {F : World → Prop} {R : Value → (World → Prop) → Prop} (h : initK fn.ntmps (pvs xs) fun s => execJ P c s [.fact F] (endK P fn.results.toList fun out H' => notPan out ∧ Fin R out H')) : SpecF P f xs F R :=
 specF_of (specJ_of_exec hm hf hn hb hl h)
def GrwR (v : Value) (G : World → Prop) : Prop := ∃ (oa : Option Addr) (oc : Nat) (m : List CellP), v = .slice oa m.length oc ∧ (oa = none → m = []) ∧ (∀ p ∈ m, CellOk p) ∧ Small m ∧ (m = [] ∨ ValidP (m.map (·.c))) ∧ (m.length ≤ 12 ∧ ∀ p ∈ m, p.c.items.length ≤ 4 ∧ p.c.names.length ≤ 2 ∧ p.c.text.length ≤ 2) ∧ ∀ w, G w → GrF oa m w
structure GSt where
 i : Nat
 ob : Option Nat
 oc : Nat
 m : List CellP
abbrev GIx := (Int × Int × List UInt8) ⊕ (List Int × BSt) ⊕ (List UInt8 × List (List UInt8) × BSt × List Int × BSt)
def gP : GIx → CellP
 | .inl (k, nu, t) => ⟨⟨k, nu, t, [], []⟩, none, 0, none, 0⟩
 | .inr (.inl (its, o)) => ⟨⟨6, 0, [], [], its⟩, none, 0, at0 o.ob, o.cap⟩
 | .inr (.inr (t, nms, o2, its, o)) => ⟨⟨8, 0, t, nms, its⟩, at0 o2.ob, o2.cap, at0 o.ob, o.cap⟩
def gT : GIx → List Ent
 | .inl _ => []
 | .inr (.inl (its, o)) => [.app 3 1 (iC its) (at0 o.ob) its.length o.cap]
 | .inr (.inr (t, nms, o2, its, o)) => [.dead, .app 9 1 (strC nms) (at0 o2.ob) nms.length o2.cap, .app 3 1 (iC its) (at0 o.ob) its.length o.cap]
set_option maxHeartbeats 4000000 in
theorem Grown_c (a : Option Addr) (ca : Nat) (L : List Int) (ha : a = none → L = []) (hl : L.length ≤ 200000000000000) : SpecF Tryz.prog 12 [.slice a L.length ca] (fun w => SlAt a (L.length * 1) (iC L) w) GrwR := by
 refine specFJ hm Tryz.func12 (by kernel_rfl) rfl rfl ?_
 refine wXS ?_
 obtain ⟨n, hn⟩ : ∃ n, n = min L.length 12 := ⟨_, rfl⟩
 refine LoopN.introS GSt (fun ⟨i, ob, oc, m⟩ => i ≤ n ∧ m.length = i ∧ (∀ p ∈ m, GrwC n p) ∧ (ob = none → m = []) ∧ m.length ≤ oc) (fun ⟨i, ob, oc, m⟩ => mkS Tryz.f12.ntmps 0 [(0, .c (.v (.slice a L.length ca))), (3, .c (.v (.int .i64 (n : Int)))), (4, .c (.v (.slice (at0 ob) m.length oc))), (5, .c (.v (.int .i64 (i : Int))))]) (fun ⟨i, ob, oc, m⟩ => [.fact (fun w => SlAt a (L.length * 1) (iC L) w), .app 57 5 (grC m) (at0 ob) m.length oc, .fact (fun w => ∀ p ∈ m, CellF p w)]) (fun ⟨i, _, _, _⟩ => n - i) [.app 57 5 [] none 0 0, .dead] rfl (fun _ => rfl) (fun _ => rfl) (fun _ _ => ⟨trivial, trivial, trivial, trivial⟩) ?_ ?_
 ·refine ⟨⟨0, none, 0, []⟩, ⟨Nat.zero_le _, rfl, (fun p h => by cases h), (fun _ => rfl), Nat.le_refl _⟩, ?_, [.fact (fun w => SlAt a (L.length * 1) (iC L) w), .app 57 5 [] none 0 0, .fact (fun w => ∀ p ∈ [], CellF p w)], turnS ⟨.inr (.inl rfl), .inr (.inl rfl), .inr (.inr ⟨_, rfl, fun w _ p hp => by cases hp⟩), trivial⟩, wkH_refl _⟩
  (repeat' (first | exact trivial | refine And.intro (by with_reducible rfl) ?_ | (with_reducible exact wkC_refl _) | (with_reducible exact wkCs_refl _) | refine And.intro ?_ ?_))
  all_goals first | rfl | exact av_int (by rw [hn]; unfold Go.AX.minI; split <;> omega)
 rintro ⟨i, ob, oc, m⟩ ⟨hi, hml, hmo, hoa, hoc⟩
 refine wXS ?_
 refine brd_dec (fun h1 => ?_) (fun h1 => ?_)
 ·obtain ⟨z, hz⟩ : ∃ z, L[i]? = some z := ⟨_, List.getElem?_eq_getElem (by omega)⟩
  have hsa : a.isSome = true := by
   cases a with
   | none => rw [ha rfl] at hz; cases hz
   | some b => rfl
  refine wXS ?_
  refine Nd.mk ⟨hsa, by omega, by omega⟩ ?_
  refine wXS ?_
  refine LdN.one (.int .i64 z) rfl (fun w hw => hw.1) (by rw [Int.toNat_natCast]; show (iC L)[i * 1]? = _; rw [Nat.mul_one]; exact iC_get hz) ?_
  refine wX ?_
  refine SeqN.plain ?_
  refine wX ?_
  refine SeqN.plain ?_
  refine wX ?_
  have hXb := wrap_u64_bd z
  generalize IntKind.u64.wrap z = X at *
  have hx0 : IntKind.u64.wrap (X.tdiv 9) = X / 9 := by rw [Int.tdiv_eq_ediv_of_nonneg (by omega)]; exact wrap_u64 (by omega)
  have hk0 : IntKind.i64.wrap (X.tmod 9) = X % 9 := by rw [Int.tmod_eq_emod_of_nonneg (by omega)]; exact wrap_i64 (by omega)
  rw [hx0, hk0]
  obtain ⟨x, hx⟩ : ∃ x, x = X / 9 := ⟨_, rfl⟩
  obtain ⟨kd, hkd⟩ : ∃ kd, kd = X % 9 := ⟨_, rfl⟩
  rw [← hx, ← hkd]
  have hxb : 0 ≤ x ∧ x ≤ 2049638230412172402 := by omega
  have hkb : 0 ≤ kd ∧ kd ≤ 8 := by omega
  clear hx0 hk0
  refine SeqN.join GIx (fun i => GrwC n (gP i)) (fun _ => mkS Tryz.f12.ntmps 0 [(0, .c (.v (.slice a L.length ca))), (3, .c (.v (.int .i64 (n : Int)))), (4, .c (.v (.slice (at0 ob) m.length oc))), (5, .c (.v (.int .i64 (i : Int)))), (7, .c (.lp 3 0))])
   (fun i => .fact (fun w => SlAt a (L.length * 1) (iC L) w) :: .app 57 5 (grC m) (at0 ob) m.length oc :: .fact (fun w => ∀ p ∈ m, CellF p w) :: .blk 57 (vs (cellC (gP i))) :: gT i)
   (by rintro (_ | _ | _) _ <;> exact Nat.le_of_ble_eq_true rfl) (by rintro (_ | _ | _) _ <;> rfl) (by rintro (_ | _ | _) _ <;> exact okHB_eq rfl) ?_ ?_
  rotate_left
  ·rintro (⟨k, nu, t⟩ | ⟨its, ob0, ocap⟩ | ⟨t, nms, ⟨nb0, ncap⟩, its, ob0, ocap⟩) hgp
   ·-- the cell is put behind the graph; ⟨⟨k, nu, t, [], []⟩, none, 0, none, 0⟩: the cell, , .dead, .dead: what else is over, ⟨SlAt.nil, SlAt.nil⟩: its rows
    refine wXS ?_
    try refine Nd.mk ⟨Nat.le_refl 1, rfl, rfl⟩ ?_
    (conv => whnf)
    refine AppN.grow 1 (grC m) (cellC (⟨⟨k, nu, t, [], []⟩, none, 0, none, 0⟩ : CellP)) rfl rfl ⟨Nat.le_refl 1, ⟨by show (m.length + 1) * 80 ≤ _; omega, by omega⟩, by decide⟩ fun ob2 oc2 hoc2 _ => ?_
    refine wXS ?_
    have hm2 : m.length + 1 = (m ++ [(⟨⟨k, nu, t, [], []⟩, none, 0, none, 0⟩ : CellP)]).length := by simp
    have hg2 := grC_snoc m ⟨⟨k, nu, t, [], []⟩, none, 0, none, 0⟩
    refine ⟨⟨i + 1, some ob2, oc2, m ++ [⟨⟨k, nu, t, [], []⟩, none, 0, none, 0⟩]⟩, ⟨by omega, by rw [← hm2, hml], ?_, (fun h => by cases h), by rw [← hm2]; exact hoc2⟩, by show n - (i + 1) < n - i; omega, ?_, [.fact (fun w => SlAt a (L.length * 1) (iC L) w), .app 57 5 (grC m ++ cellC ⟨⟨k, nu, t, [], []⟩, none, 0, none, 0⟩) (some ⟨ob2, 0, none⟩) (m.length + 1) oc2, .fact (fun w => ∀ q ∈ m ++ [(⟨⟨k, nu, t, [], []⟩, none, 0, none, 0⟩ : CellP)], CellF q w), .dead, .dead], turnS ⟨.inr (.inl rfl), .inr (.inl rfl), .inr (.inr ⟨_, rfl, fun w hw q hq => ?_⟩), by repeat (first | exact trivial | refine ⟨.inl rfl, ?_⟩)⟩, ?_⟩
    ·intro q hq
     rcases List.mem_append.1 hq with hq | hq
     ·exact hmo q hq
     ·rw [List.mem_singleton.1 hq]
      exact hgp
    ·(repeat' (first | exact trivial | refine And.intro (by with_reducible rfl) ?_ | (with_reducible exact wkC_refl _) | (with_reducible exact wkCs_refl _) | refine And.intro ?_ ?_))
     all_goals first | rfl | exact av_int (by rw [wrap_i64 (by omega)]; omega) | (rw [hm2]; rfl)
    ·rcases List.mem_append.1 hq with hq | hq
     ·exact hw.2.1 q hq
     ·rw [List.mem_singleton.1 hq]
      exact ⟨SlAt.nil, SlAt.nil⟩
    ·show wkH _ [Ent.fact _, .app 57 5 (grC (m ++ [_])) _ (m ++ [_]).length _, _]
     rw [← hm2, hg2]
     exact ⟨wkE_refl _, wkE_refl _, wkE_refl _, trivial⟩
   ·-- the cell is put behind the graph; ⟨⟨6, 0, [], [], its⟩, none, 0, at0 ob0, ocap⟩: the cell, , .dead, .dead, .dead: what else is over, ⟨SlAt.nil, hw.2.2.1⟩: its rows
    refine wXS ?_
    try refine Nd.mk ⟨Nat.le_refl 1, rfl, rfl⟩ ?_
    (conv => whnf)
    refine AppN.grow 1 (grC m) (cellC (⟨⟨6, 0, [], [], its⟩, none, 0, at0 ob0, ocap⟩ : CellP)) rfl rfl ⟨Nat.le_refl 1, ⟨by show (m.length + 1) * 80 ≤ _; omega, by omega⟩, by decide⟩ fun ob2 oc2 hoc2 _ => ?_
    refine wXS ?_
    have hm2 : m.length + 1 = (m ++ [(⟨⟨6, 0, [], [], its⟩, none, 0, at0 ob0, ocap⟩ : CellP)]).length := by simp
    have hg2 := grC_snoc m ⟨⟨6, 0, [], [], its⟩, none, 0, at0 ob0, ocap⟩
    refine ⟨⟨i + 1, some ob2, oc2, m ++ [⟨⟨6, 0, [], [], its⟩, none, 0, at0 ob0, ocap⟩]⟩, ⟨by omega, by rw [← hm2, hml], ?_, (fun h => by cases h), by rw [← hm2]; exact hoc2⟩, by show n - (i + 1) < n - i; omega, ?_, [.fact (fun w => SlAt a (L.length * 1) (iC L) w), .app 57 5 (grC m ++ cellC ⟨⟨6, 0, [], [], its⟩, none, 0, at0 ob0, ocap⟩) (some ⟨ob2, 0, none⟩) (m.length + 1) oc2, .fact (fun w => ∀ q ∈ m ++ [(⟨⟨6, 0, [], [], its⟩, none, 0, at0 ob0, ocap⟩ : CellP)], CellF q w), .dead, .dead, .dead], turnS ⟨.inr (.inl rfl), .inr (.inl rfl), .inr (.inr ⟨_, rfl, fun w hw q hq => ?_⟩), by repeat (first | exact trivial | refine ⟨.inl rfl, ?_⟩)⟩, ?_⟩
    ·intro q hq
     rcases List.mem_append.1 hq with hq | hq
     ·exact hmo q hq
     ·rw [List.mem_singleton.1 hq]
      exact hgp
    ·(repeat' (first | exact trivial | refine And.intro (by with_reducible rfl) ?_ | (with_reducible exact wkC_refl _) | (with_reducible exact wkCs_refl _) | refine And.intro ?_ ?_))
     all_goals first | rfl | exact av_int (by rw [wrap_i64 (by omega)]; omega) | (rw [hm2]; rfl)
    ·rcases List.mem_append.1 hq with hq | hq
     ·exact hw.2.1 q hq
     ·rw [List.mem_singleton.1 hq]
      exact ⟨SlAt.nil, hw.2.2.1⟩
    ·show wkH _ [Ent.fact _, .app 57 5 (grC (m ++ [_])) _ (m ++ [_]).length _, _]
     rw [← hm2, hg2]
     exact ⟨wkE_refl _, wkE_refl _, wkE_refl _, trivial⟩
   ·-- the cell is put behind the graph; ⟨⟨8, 0, t, nms, its⟩, at0 nb0, ncap, at0 ob0, ocap⟩: the cell, , .dead, .dead, .dead, .dead, .dead: what else is over, ⟨hw.2.2.1, hw.2.2.2.1⟩: its rows
    refine wXS ?_
    try refine Nd.mk ⟨Nat.le_refl 1, rfl, rfl⟩ ?_
    (conv => whnf)
    refine AppN.grow 1 (grC m) (cellC (⟨⟨8, 0, t, nms, its⟩, at0 nb0, ncap, at0 ob0, ocap⟩ : CellP)) rfl rfl ⟨Nat.le_refl 1, ⟨by show (m.length + 1) * 80 ≤ _; omega, by omega⟩, by decide⟩ fun ob2 oc2 hoc2 _ => ?_
    refine wXS ?_
    have hm2 : m.length + 1 = (m ++ [(⟨⟨8, 0, t, nms, its⟩, at0 nb0, ncap, at0 ob0, ocap⟩ : CellP)]).length := by simp
    have hg2 := grC_snoc m ⟨⟨8, 0, t, nms, its⟩, at0 nb0, ncap, at0 ob0, ocap⟩
    refine ⟨⟨i + 1, some ob2, oc2, m ++ [⟨⟨8, 0, t, nms, its⟩, at0 nb0, ncap, at0 ob0, ocap⟩]⟩, ⟨by omega, by rw [← hm2, hml], ?_, (fun h => by cases h), by rw [← hm2]; exact hoc2⟩, by show n - (i + 1) < n - i; omega, ?_, [.fact (fun w => SlAt a (L.length * 1) (iC L) w), .app 57 5 (grC m ++ cellC ⟨⟨8, 0, t, nms, its⟩, at0 nb0, ncap, at0 ob0, ocap⟩) (some ⟨ob2, 0, none⟩) (m.length + 1) oc2, .fact (fun w => ∀ q ∈ m ++ [(⟨⟨8, 0, t, nms, its⟩, at0 nb0, ncap, at0 ob0, ocap⟩ : CellP)], CellF q w), .dead, .dead, .dead, .dead, .dead], turnS ⟨.inr (.inl rfl), .inr (.inl rfl), .inr (.inr ⟨_, rfl, fun w hw q hq => ?_⟩), by repeat (first | exact trivial | refine ⟨.inl rfl, ?_⟩)⟩, ?_⟩
    ·intro q hq
     rcases List.mem_append.1 hq with hq | hq
     ·exact hmo q hq
     ·rw [List.mem_singleton.1 hq]
      exact hgp
    ·(repeat' (first | exact trivial | refine And.intro (by with_reducible rfl) ?_ | (with_reducible exact wkC_refl _) | (with_reducible exact wkCs_refl _) | refine And.intro ?_ ?_))
     all_goals first | rfl | exact av_int (by rw [wrap_i64 (by omega)]; omega) | (rw [hm2]; rfl)
    ·rcases List.mem_append.1 hq with hq | hq
     ·exact hw.2.1 q hq
     ·rw [List.mem_singleton.1 hq]
      exact ⟨hw.2.2.1, hw.2.2.2.1⟩
    ·show wkH _ [Ent.fact _, .app 57 5 (grC (m ++ [_])) _ (m ++ [_]).length _, _]
     rw [← hm2, hg2]
     exact ⟨wkE_refl _, wkE_refl _, wkE_refl _, trivial⟩
  have hkk : kd = 0 ∨ kd = 1 ∨ kd = 2 ∨ kd = 3 ∨ kd = 4 ∨ kd = 5 ∨ kd = 6 ∨ kd = 7 ∨ kd = 8 := by omega
  clear hkd hkb hXb
  rcases hkk with rfl | rfl | rfl | rfl | rfl | rfl | rfl | rfl | rfl
  ·refine wXS ?_
   refine ⟨.inl (0, 0, []), grw_plain n _ _ _ (by decide), ?_, wkE_refl _, wkE_refl _, wkE_refl _, wkE_refl _, trivial⟩
   exact wKK
  ·refine wXS ?_
   refine ⟨.inl (1, 0, []), grw_plain n _ _ _ (by decide), ?_, wkE_refl _, wkE_refl _, wkE_refl _, wkE_refl _, trivial⟩
   exact wKK
  ·refine wXS ?_
   refine ⟨.inl (2, 0, []), grw_plain n _ _ _ (by decide), ?_, wkE_refl _, wkE_refl _, wkE_refl _, wkE_refl _, trivial⟩
   exact wKK
  ·refine wXS ?_
   generalize IntKind.i64.wrap (IntKind.i64.wrap (x.tmod 5) - 2) = nu at *
   refine wXS ?_
   refine ⟨.inl (3, nu, []), grw_plain n _ _ _ (by decide), ?_, wkE_refl _, wkE_refl _, wkE_refl _, wkE_refl _, trivial⟩
   exact wKK
  ·refine wXS ?_
   rw [show x.tmod 4 = x % 4 by rw [Int.tmod_eq_emod_of_nonneg (by omega)]]
   have hj : x % 4 = 0 ∨ x % 4 = 1 ∨ x % 4 = 2 ∨ x % 4 = 3 := by omega
   rcases hj with e | e | e | e <;> rw [e]
   ·refine wXS ?_
    refine ⟨.inl (4, 0, [97]), grw_plain n _ _ _ (by decide), ?_, wkE_refl _, wkE_refl _, wkE_refl _, wkE_refl _, trivial⟩
    exact wKK
   ·refine wXS ?_
    refine ⟨.inl (4, 0, [98]), grw_plain n _ _ _ (by decide), ?_, wkE_refl _, wkE_refl _, wkE_refl _, wkE_refl _, trivial⟩
    exact wKK
   ·refine wXS ?_
    refine ⟨.inl (4, 0, [35]), grw_plain n _ _ _ (by decide), ?_, wkE_refl _, wkE_refl _, wkE_refl _, wkE_refl _, trivial⟩
    exact wKK
   ·refine wXS ?_
    refine ⟨.inl (4, 0, [97, 97]), grw_plain n _ _ _ (by decide), ?_, wkE_refl _, wkE_refl _, wkE_refl _, wkE_refl _, trivial⟩
    exact wKK
  ·refine wXS ?_
   rw [show x.tmod 4 = x % 4 by rw [Int.tmod_eq_emod_of_nonneg (by omega)]]
   have hj : x % 4 = 0 ∨ x % 4 = 1 ∨ x % 4 = 2 ∨ x % 4 = 3 := by omega
   rcases hj with e | e | e | e <;> rw [e]
   ·refine wXS ?_
    refine ⟨.inl (5, 0, [97]), grw_plain n _ _ _ (by decide), ?_, wkE_refl _, wkE_refl _, wkE_refl _, wkE_refl _, trivial⟩
    exact wKK
   ·refine wXS ?_
    refine ⟨.inl (5, 0, [98]), grw_plain n _ _ _ (by decide), ?_, wkE_refl _, wkE_refl _, wkE_refl _, wkE_refl _, trivial⟩
    exact wKK
   ·refine wXS ?_
    refine ⟨.inl (5, 0, [35]), grw_plain n _ _ _ (by decide), ?_, wkE_refl _, wkE_refl _, wkE_refl _, wkE_refl _, trivial⟩
    exact wKK
   ·refine wXS ?_
    refine ⟨.inl (5, 0, [97, 97]), grw_plain n _ _ _ (by decide), ?_, wkE_refl _, wkE_refl _, wkE_refl _, wkE_refl _, trivial⟩
    exact wKK
  ·refine wXS ?_
   have hc4 : IntKind.i64.wrap (x.tmod 4) = x % 4 := by rw [Int.tmod_eq_emod_of_nonneg (by omega)]; exact wrap_i64 (by omega)
   refine LoopN.intro (Nat × List Int × BSt) (fun ⟨k, its, o⟩ => k ≤ 3 ∧ its.length = k ∧ (∀ y ∈ its, 0 ≤ y) ∧ o.ok its.length)
    (fun ⟨k, its, o⟩ => mkS Tryz.f12.ntmps 0 [(0, .c (.v (.slice a L.length ca))), (3, .c (.v (.int .i64 (n : Int)))), (4, .c (.v (.slice (at0 ob) m.length oc))), (5, .c (.v (.int .i64 (i : Int)))), (6, .c (.v (.int .u64 x))), (7, .c (.lp 3 0)), (8, .c (.v (.int .i64 (k : Int))))])
    (fun ⟨k, its, o⟩ => [.fact (fun w => SlAt a (L.length * 1) (iC L) w), .app 57 5 (grC m) (at0 ob) m.length oc, .fact (fun w => ∀ p ∈ m, CellF p w), .blk 57 (vs (cellC ⟨⟨6, 0, [], [], its⟩, none, 0, at0 o.ob, o.cap⟩)), .app 3 1 (iC its) (at0 o.ob) its.length o.cap]) (fun ⟨k, _, _⟩ => 4 - k) [.app 3 1 [] none 0 0] rfl (fun ⟨_, _, _⟩ => rfl) (fun ⟨_, _, _⟩ => rfl) (fun ⟨_, _, _⟩ _ => okHB_eq rfl) ?_ ?_
   ·refine ⟨(0, [], ⟨none, 0⟩), ⟨Nat.zero_le _, rfl, (fun y h => by cases h), fun _ => ⟨rfl, rfl⟩, Nat.le_refl _, fun _ => rfl⟩, ?_, wkE_refl _, wkE_refl _, wkE_refl _, wkE_refl _, wkE_refl _, trivial⟩
    exact wKK
   rintro ⟨k, its, ⟨ob0, ocap⟩⟩ ⟨hk, hil, hip, ho⟩
   refine wXS ?_
   refine brd_dec (fun h2 => ?_) (fun h2 => ?_)
   ·rw [hc4] at h2
    ((conv => whnf); (repeat ((first | refine VrN.keep ?_ | refine BoxN.own ?_ | refine RwN.own ?_); (conv => whnf))))
    refine SeqN.plain ?_
    ((conv => whnf); (repeat ((first | refine VrN.keep ?_ | refine BoxN.own ?_ | refine RwN.own ?_); (conv => whnf))))
    refine DrawN.plan [0, 2, 4, 9] [(1, 1), (3, 1), (5, 1), (6, 1), (7, 1), (8, 1), (10, 1), (11, 0)] [(12, 0), (13, 0), (14, 0)] (by decide +kernel) ?_
    refine wXS ?_
    have hit := grw_item x k 4 7 n hxb (by omega) (by decide) (by decide)
    simp only [Int.cast_ofNat_Int] at hit
    generalize (IntKind.i64.wrap (IntKind.u64.wrap (IntKind.u64.wrap (x.tdiv 4) + IntKind.u64.wrap (IntKind.u64.wrap (k : Int) * 7)))).tmod (n : Int) = it at *
    refine Nd.mk ⟨Nat.le_refl 1, rfl, rfl⟩ ?_
    (conv => whnf)
    refine AppN.grow 4 (iC its) [.int .i64 it] rfl rfl ⟨Nat.le_refl 1, ⟨by show (its.length + 1) * 8 ≤ _; omega, by show its.length + 1 < _; omega⟩, Nat.one_ne_zero⟩ fun wb wc hwc _ => ?_
    have hcl : iC its ++ [.int .i64 it] = iC (its ++ [it]) := by simp [iC]
    have hll : its.length + 1 = (its ++ [it]).length := by simp
    rw [hcl, hll]
    rw [hll] at hwc
    refine wXS ?_
    refine ⟨(k + 1, its ++ [it], ⟨some wb, wc⟩), ⟨by omega, by rw [← hll, hil], ?_, (fun h => by cases h), hwc, fun h => by have : wc = 0 := h; omega⟩, by show 4 - (k + 1) < 4 - k; omega, ?_, wkE_refl _, wkE_refl _, wkE_refl _, wkE_refl _, wkE_refl _, trivial⟩
    ·intro y hy
     rcases List.mem_append.1 hy with hy | hy
     ·exact hip y hy
     ·rw [List.mem_singleton.1 hy]; exact hit
    exact wKK
   ·clear hc4
    have hna : at0 ob0 = none → its = [] := fun h => by
     cases ob0 with
     | none => exact List.eq_nil_of_length_eq_zero (ho.1 rfl).1
     | some b => cases h
    have hoc2' : its.length ≤ ocap := ho.2.1
    refine wXS ?_
    refine ⟨.inr (.inl (its, ⟨ob0, ocap⟩)), ⟨⟨fun _ => rfl, hna, Nat.zero_le _, by show its.length ≤ _; omega, (fun s h => (by cases h)), Nat.zero_le _, Nat.le_refl _, hoc2'⟩, hip, by show its.length ≤ 4; omega, Nat.zero_le _, Nat.zero_le _⟩, ?_, wkE_refl _, wkE_refl _, wkE_refl _, wkE_refl _, wkE_refl _, trivial⟩
    exact wKK
  ·refine wXS ?_
   refine ⟨.inl (7, 0, []), grw_plain n _ _ _ (by decide), ?_, wkE_refl _, wkE_refl _, wkE_refl _, wkE_refl _, trivial⟩
   exact wKK
  ·refine wXS ?_
   have hq2 : IntKind.u64.wrap (x.tdiv 2) = x / 2 := by rw [Int.tdiv_eq_ediv_of_nonneg (by omega)]; exact wrap_u64 (by omega)
   have hc3 : IntKind.i64.wrap ((IntKind.u64.wrap (x.tdiv 2)).tmod 3) = x / 2 % 3 := by rw [hq2, Int.tmod_eq_emod_of_nonneg (by omega)]; exact wrap_i64 (by omega)
   rw [show x.tmod 2 = x % 2 by rw [Int.tmod_eq_emod_of_nonneg (by omega)]]
   have hj : x % 2 = 0 ∨ x % 2 = 1 := by omega
   rcases hj with e | e <;> rw [e]
   ·refine wXS ?_
    refine LoopN.intro (Nat × List (List UInt8) × BSt × List Int × BSt) (fun ⟨k, nms, o2, its, o⟩ => k ≤ 2 ∧ nms.length = k ∧ its.length = k ∧ (∀ y ∈ its, 0 ≤ y) ∧ (∀ s ∈ nms, s.length ≤ 2) ∧ o2.ok nms.length ∧ o.ok its.length)
     (fun ⟨k, nms, o2, its, o⟩ => mkS Tryz.f12.ntmps 0 [(0, .c (.v (.slice a L.length ca))), (3, .c (.v (.int .i64 (n : Int)))), (4, .c (.v (.slice (at0 ob) m.length oc))), (5, .c (.v (.int .i64 (i : Int)))), (6, .c (.v (.int .u64 x))), (7, .c (.lp 3 0)), (9, .c (.v (.int .i64 (k : Int))))])
     (fun ⟨k, nms, o2, its, o⟩ => [.fact (fun w => SlAt a (L.length * 1) (iC L) w), .app 57 5 (grC m) (at0 ob) m.length oc, .fact (fun w => ∀ p ∈ m, CellF p w), .blk 57 (vs (cellC ⟨⟨8, 0, [67], nms, its⟩, at0 o2.ob, o2.cap, at0 o.ob, o.cap⟩)), .dead, .app 9 1 (strC nms) (at0 o2.ob) nms.length o2.cap, .app 3 1 (iC its) (at0 o.ob) its.length o.cap]) (fun ⟨k, _, _, _, _⟩ => 3 - k) [.app 9 1 [] none 0 0, .app 3 1 [] none 0 0] rfl (fun ⟨_, _, _, _, _⟩ => rfl) (fun ⟨_, _, _, _, _⟩ => rfl) (fun ⟨_, _, _, _, _⟩ _ => okHB_eq rfl) ?_ ?_
    ·refine ⟨(0, [], ⟨none, 0⟩, [], ⟨none, 0⟩), ⟨Nat.zero_le _, rfl, rfl, (fun y h => by cases h), (fun y h => by cases h), ⟨fun _ => ⟨rfl, rfl⟩, Nat.le_refl _, fun _ => rfl⟩, fun _ => ⟨rfl, rfl⟩, Nat.le_refl _, fun _ => rfl⟩, ?_, wkE_refl _, wkE_refl _, wkE_refl _, wkE_refl _, trivial, wkE_refl _, wkE_refl _, trivial⟩
     exact wKK
    rintro ⟨k, nms, ⟨nb0, ncap⟩, its, ⟨ob0, ocap⟩⟩ ⟨hk, hnl, hil, hip, hnw, ho2, ho⟩
    refine wXS ?_
    refine brd_dec (fun h2 => ?_) (fun h2 => ?_)
    ·rw [hc3] at h2
     have hk01 : k = 0 ∨ k = 1 := by omega
     rcases hk01 with rfl | rfl
     ·-- a name and an item are put behind; [64, 97]: the name, 0: the round
      ((conv => whnf); (repeat ((first | refine VrN.keep ?_ | refine BoxN.own ?_ | refine RwN.own ?_); (conv => whnf))))
      refine SeqN.plain ?_
      ((conv => whnf); (repeat ((first | refine VrN.keep ?_ | refine BoxN.own ?_ | refine RwN.own ?_); (conv => whnf))))
      refine SeqN.plain ?_
      ((conv => whnf); (repeat ((first | refine VrN.keep ?_ | refine BoxN.own ?_ | refine RwN.own ?_); (conv => whnf))))
      refine DrawN.plan [0, 3] [(1, 1), (2, 0), (4, 1), (5, 1), (6, 0)] [(7, 0), (8, 0), (9, 0)] (by decide +kernel) ?_
      refine wXS ?_
      refine AppN.grow 5 (strC nms) [.string (bs [64, 97])] rfl rfl ⟨Nat.le_refl 1, ⟨by show (nms.length + 1) * 16 ≤ _; omega, by show nms.length + 1 < _; omega⟩, Nat.one_ne_zero⟩ fun xb xc hxc _ => ?_
      have hcn : strC nms ++ [.string (bs [64, 97])] = strC (nms ++ [[64, 97]]) := by simp [strC]
      have hln : nms.length + 1 = (nms ++ [([64, 97] : List UInt8)]).length := by simp
      rw [hcn, hln]
      rw [hln] at hxc
      refine wXS ?_
      refine DrawN.plan [0, 2, 4, 9] [(1, 1), (3, 1), (5, 1), (6, 1), (7, 1), (8, 1), (10, 1), (11, 0)] [(12, 0), (13, 0), (14, 0)] (by decide +kernel) ?_
      refine wXS ?_
      have hit := grw_item x 0 6 5 n hxb (by omega) (by decide) (by decide)
      simp only [Int.cast_ofNat_Int] at hit
      generalize hgi : (IntKind.i64.wrap (IntKind.u64.wrap (IntKind.u64.wrap (x.tdiv 6) + IntKind.u64.wrap (IntKind.u64.wrap (((0 : Nat) : Int)) * 5)))).tmod (n : Int) = it at *
      refine Nd.mk ⟨Nat.le_refl 1, rfl, rfl⟩ ?_
      (conv => whnf)
      refine AppN.grow 6 (iC its) [.int .i64 it] rfl rfl ⟨Nat.le_refl 1, ⟨by show (its.length + 1) * 8 ≤ _; omega, by show its.length + 1 < _; omega⟩, Nat.one_ne_zero⟩ fun wb wc hwc _ => ?_
      have hcl : iC its ++ [.int .i64 it] = iC (its ++ [it]) := by simp [iC]
      have hll : its.length + 1 = (its ++ [it]).length := by simp
      rw [hcl, hll]
      rw [hll] at hwc
      refine wXS ?_
      refine ⟨(0 + 1, nms ++ [([64, 97] : List UInt8)], ⟨some xb, xc⟩, its ++ [it], ⟨some wb, wc⟩), ⟨by omega, by rw [← hln, hnl], by rw [← hll, hil], ?_, ?_, ⟨(fun h => by cases h), hxc, fun h => by have : xc = 0 := h; omega⟩, (fun h => by cases h), hwc, fun h => by have : wc = 0 := h; omega⟩, by show 3 - (0 + 1) < 3 - 0; omega, ?_, wkE_refl _, wkE_refl _, wkE_refl _, wkE_refl _, trivial, wkE_refl _, wkE_refl _, trivial⟩
      ·intro y hy
       rcases List.mem_append.1 hy with hy | hy
       ·exact hip y hy
       ·rw [List.mem_singleton.1 hy]; exact hit
      ·intro y hy
       rcases List.mem_append.1 hy with hy | hy
       ·exact hnw y hy
       ·rw [List.mem_singleton.1 hy]; decide
      exact wKK
     ·-- a name and an item are put behind; [64, 98]: the name, 1: the round
      ((conv => whnf); (repeat ((first | refine VrN.keep ?_ | refine BoxN.own ?_ | refine RwN.own ?_); (conv => whnf))))
      refine SeqN.plain ?_
      ((conv => whnf); (repeat ((first | refine VrN.keep ?_ | refine BoxN.own ?_ | refine RwN.own ?_); (conv => whnf))))
      refine SeqN.plain ?_
      ((conv => whnf); (repeat ((first | refine VrN.keep ?_ | refine BoxN.own ?_ | refine RwN.own ?_); (conv => whnf))))
      refine DrawN.plan [0, 3] [(1, 1), (2, 0), (4, 1), (5, 1), (6, 0)] [(7, 0), (8, 0), (9, 0)] (by decide +kernel) ?_
      refine wXS ?_
      refine AppN.grow 5 (strC nms) [.string (bs [64, 98])] rfl rfl ⟨Nat.le_refl 1, ⟨by show (nms.length + 1) * 16 ≤ _; omega, by show nms.length + 1 < _; omega⟩, Nat.one_ne_zero⟩ fun xb xc hxc _ => ?_
      have hcn : strC nms ++ [.string (bs [64, 98])] = strC (nms ++ [[64, 98]]) := by simp [strC]
      have hln : nms.length + 1 = (nms ++ [([64, 98] : List UInt8)]).length := by simp
      rw [hcn, hln]
      rw [hln] at hxc
      refine wXS ?_
      refine DrawN.plan [0, 2, 4, 9] [(1, 1), (3, 1), (5, 1), (6, 1), (7, 1), (8, 1), (10, 1), (11, 0)] [(12, 0), (13, 0), (14, 0)] (by decide +kernel) ?_
      refine wXS ?_
      have hit := grw_item x 1 6 5 n hxb (by omega) (by decide) (by decide)
      simp only [Int.cast_ofNat_Int] at hit
      generalize hgi : (IntKind.i64.wrap (IntKind.u64.wrap (IntKind.u64.wrap (x.tdiv 6) + IntKind.u64.wrap (IntKind.u64.wrap (((1 : Nat) : Int)) * 5)))).tmod (n : Int) = it at *
      refine Nd.mk ⟨Nat.le_refl 1, rfl, rfl⟩ ?_
      (conv => whnf)
      refine AppN.grow 6 (iC its) [.int .i64 it] rfl rfl ⟨Nat.le_refl 1, ⟨by show (its.length + 1) * 8 ≤ _; omega, by show its.length + 1 < _; omega⟩, Nat.one_ne_zero⟩ fun wb wc hwc _ => ?_
      have hcl : iC its ++ [.int .i64 it] = iC (its ++ [it]) := by simp [iC]
      have hll : its.length + 1 = (its ++ [it]).length := by simp
      rw [hcl, hll]
      rw [hll] at hwc
      refine wXS ?_
      refine ⟨(1 + 1, nms ++ [([64, 98] : List UInt8)], ⟨some xb, xc⟩, its ++ [it], ⟨some wb, wc⟩), ⟨by omega, by rw [← hln, hnl], by rw [← hll, hil], ?_, ?_, ⟨(fun h => by cases h), hxc, fun h => by have : xc = 0 := h; omega⟩, (fun h => by cases h), hwc, fun h => by have : wc = 0 := h; omega⟩, by show 3 - (1 + 1) < 3 - 1; omega, ?_, wkE_refl _, wkE_refl _, wkE_refl _, wkE_refl _, trivial, wkE_refl _, wkE_refl _, trivial⟩
      ·intro y hy
       rcases List.mem_append.1 hy with hy | hy
       ·exact hip y hy
       ·rw [List.mem_singleton.1 hy]; exact hit
      ·intro y hy
       rcases List.mem_append.1 hy with hy | hy
       ·exact hnw y hy
       ·rw [List.mem_singleton.1 hy]; decide
      exact wKK
    ·clear hc3
     have hna : at0 ob0 = none → its = [] := fun h => by
      cases ob0 with
      | none => exact List.eq_nil_of_length_eq_zero (ho.1 rfl).1
      | some b => cases h
     have hnn : at0 nb0 = none → nms = [] := fun h => by
      cases nb0 with
      | none => exact List.eq_nil_of_length_eq_zero (ho2.1 rfl).1
      | some b => cases h
     have hoc2' : its.length ≤ ocap := ho.2.1
     have hnc2' : nms.length ≤ ncap := ho2.2.1
     refine wXS ?_
     refine ⟨.inr (.inr ([67], nms, ⟨nb0, ncap⟩, its, ⟨ob0, ocap⟩)), ⟨⟨hnn, hna, by show nms.length ≤ _; omega, by show its.length ≤ _; omega, (fun s h => Nat.le_trans (hnw s h) (by decide)), Nat.le_of_ble_eq_true rfl, hnc2', hoc2'⟩, hip, by show its.length ≤ 4; omega, by show nms.length ≤ 2; omega, Nat.le_of_ble_eq_true rfl⟩, ?_, wkE_refl _, wkE_refl _, wkE_refl _, wkE_refl _, trivial, wkE_refl _, wkE_refl _, trivial⟩
     exact wKK
   ·refine wXS ?_
    refine LoopN.intro (Nat × List (List UInt8) × BSt × List Int × BSt) (fun ⟨k, nms, o2, its, o⟩ => k ≤ 2 ∧ nms.length = k ∧ its.length = k ∧ (∀ y ∈ its, 0 ≤ y) ∧ (∀ s ∈ nms, s.length ≤ 2) ∧ o2.ok nms.length ∧ o.ok its.length)
     (fun ⟨k, nms, o2, its, o⟩ => mkS Tryz.f12.ntmps 0 [(0, .c (.v (.slice a L.length ca))), (3, .c (.v (.int .i64 (n : Int)))), (4, .c (.v (.slice (at0 ob) m.length oc))), (5, .c (.v (.int .i64 (i : Int)))), (6, .c (.v (.int .u64 x))), (7, .c (.lp 3 0)), (9, .c (.v (.int .i64 (k : Int))))])
     (fun ⟨k, nms, o2, its, o⟩ => [.fact (fun w => SlAt a (L.length * 1) (iC L) w), .app 57 5 (grC m) (at0 ob) m.length oc, .fact (fun w => ∀ p ∈ m, CellF p w), .blk 57 (vs (cellC ⟨⟨8, 0, [68], nms, its⟩, at0 o2.ob, o2.cap, at0 o.ob, o.cap⟩)), .dead, .app 9 1 (strC nms) (at0 o2.ob) nms.length o2.cap, .app 3 1 (iC its) (at0 o.ob) its.length o.cap]) (fun ⟨k, _, _, _, _⟩ => 3 - k) [.app 9 1 [] none 0 0, .app 3 1 [] none 0 0] rfl (fun ⟨_, _, _, _, _⟩ => rfl) (fun ⟨_, _, _, _, _⟩ => rfl) (fun ⟨_, _, _, _, _⟩ _ => okHB_eq rfl) ?_ ?_
    ·refine ⟨(0, [], ⟨none, 0⟩, [], ⟨none, 0⟩), ⟨Nat.zero_le _, rfl, rfl, (fun y h => by cases h), (fun y h => by cases h), ⟨fun _ => ⟨rfl, rfl⟩, Nat.le_refl _, fun _ => rfl⟩, fun _ => ⟨rfl, rfl⟩, Nat.le_refl _, fun _ => rfl⟩, ?_, wkE_refl _, wkE_refl _, wkE_refl _, wkE_refl _, trivial, wkE_refl _, wkE_refl _, trivial⟩
     exact wKK
    rintro ⟨k, nms, ⟨nb0, ncap⟩, its, ⟨ob0, ocap⟩⟩ ⟨hk, hnl, hil, hip, hnw, ho2, ho⟩
    refine wXS ?_
    refine brd_dec (fun h2 => ?_) (fun h2 => ?_)
    ·rw [hc3] at h2
     have hk01 : k = 0 ∨ k = 1 := by omega
     rcases hk01 with rfl | rfl
     ·-- a name and an item are put behind; [64, 97]: the name, 0: the round
      ((conv => whnf); (repeat ((first | refine VrN.keep ?_ | refine BoxN.own ?_ | refine RwN.own ?_); (conv => whnf))))
      refine SeqN.plain ?_
      ((conv => whnf); (repeat ((first | refine VrN.keep ?_ | refine BoxN.own ?_ | refine RwN.own ?_); (conv => whnf))))
      refine SeqN.plain ?_
      ((conv => whnf); (repeat ((first | refine VrN.keep ?_ | refine BoxN.own ?_ | refine RwN.own ?_); (conv => whnf))))
      refine DrawN.plan [0, 3] [(1, 1), (2, 0), (4, 1), (5, 1), (6, 0)] [(7, 0), (8, 0), (9, 0)] (by decide +kernel) ?_
      refine wXS ?_
      refine AppN.grow 5 (strC nms) [.string (bs [64, 97])] rfl rfl ⟨Nat.le_refl 1, ⟨by show (nms.length + 1) * 16 ≤ _; omega, by show nms.length + 1 < _; omega⟩, Nat.one_ne_zero⟩ fun xb xc hxc _ => ?_
      have hcn : strC nms ++ [.string (bs [64, 97])] = strC (nms ++ [[64, 97]]) := by simp [strC]
      have hln : nms.length + 1 = (nms ++ [([64, 97] : List UInt8)]).length := by simp
      rw [hcn, hln]
      rw [hln] at hxc
      refine wXS ?_
      refine DrawN.plan [0, 2, 4, 9] [(1, 1), (3, 1), (5, 1), (6, 1), (7, 1), (8, 1), (10, 1), (11, 0)] [(12, 0), (13, 0), (14, 0)] (by decide +kernel) ?_
      refine wXS ?_
      have hit := grw_item x 0 6 5 n hxb (by omega) (by decide) (by decide)
      simp only [Int.cast_ofNat_Int] at hit
      generalize hgi : (IntKind.i64.wrap (IntKind.u64.wrap (IntKind.u64.wrap (x.tdiv 6) + IntKind.u64.wrap (IntKind.u64.wrap (((0 : Nat) : Int)) * 5)))).tmod (n : Int) = it at *
      refine Nd.mk ⟨Nat.le_refl 1, rfl, rfl⟩ ?_
      (conv => whnf)
      refine AppN.grow 6 (iC its) [.int .i64 it] rfl rfl ⟨Nat.le_refl 1, ⟨by show (its.length + 1) * 8 ≤ _; omega, by show its.length + 1 < _; omega⟩, Nat.one_ne_zero⟩ fun wb wc hwc _ => ?_
      have hcl : iC its ++ [.int .i64 it] = iC (its ++ [it]) := by simp [iC]
      have hll : its.length + 1 = (its ++ [it]).length := by simp
      rw [hcl, hll]
      rw [hll] at hwc
      refine wXS ?_
      refine ⟨(0 + 1, nms ++ [([64, 97] : List UInt8)], ⟨some xb, xc⟩, its ++ [it], ⟨some wb, wc⟩), ⟨by omega, by rw [← hln, hnl], by rw [← hll, hil], ?_, ?_, ⟨(fun h => by cases h), hxc, fun h => by have : xc = 0 := h; omega⟩, (fun h => by cases h), hwc, fun h => by have : wc = 0 := h; omega⟩, by show 3 - (0 + 1) < 3 - 0; omega, ?_, wkE_refl _, wkE_refl _, wkE_refl _, wkE_refl _, trivial, wkE_refl _, wkE_refl _, trivial⟩
      ·intro y hy
       rcases List.mem_append.1 hy with hy | hy
       ·exact hip y hy
       ·rw [List.mem_singleton.1 hy]; exact hit
      ·intro y hy
       rcases List.mem_append.1 hy with hy | hy
       ·exact hnw y hy
       ·rw [List.mem_singleton.1 hy]; decide
      exact wKK
     ·-- a name and an item are put behind; [64, 98]: the name, 1: the round
      ((conv => whnf); (repeat ((first | refine VrN.keep ?_ | refine BoxN.own ?_ | refine RwN.own ?_); (conv => whnf))))
      refine SeqN.plain ?_
      ((conv => whnf); (repeat ((first | refine VrN.keep ?_ | refine BoxN.own ?_ | refine RwN.own ?_); (conv => whnf))))
      refine SeqN.plain ?_
      ((conv => whnf); (repeat ((first | refine VrN.keep ?_ | refine BoxN.own ?_ | refine RwN.own ?_); (conv => whnf))))
      refine DrawN.plan [0, 3] [(1, 1), (2, 0), (4, 1), (5, 1), (6, 0)] [(7, 0), (8, 0), (9, 0)] (by decide +kernel) ?_
      refine wXS ?_
      refine AppN.grow 5 (strC nms) [.string (bs [64, 98])] rfl rfl ⟨Nat.le_refl 1, ⟨by show (nms.length + 1) * 16 ≤ _; omega, by show nms.length + 1 < _; omega⟩, Nat.one_ne_zero⟩ fun xb xc hxc _ => ?_
      have hcn : strC nms ++ [.string (bs [64, 98])] = strC (nms ++ [[64, 98]]) := by simp [strC]
      have hln : nms.length + 1 = (nms ++ [([64, 98] : List UInt8)]).length := by simp
      rw [hcn, hln]
      rw [hln] at hxc
      refine wXS ?_
      refine DrawN.plan [0, 2, 4, 9] [(1, 1), (3, 1), (5, 1), (6, 1), (7, 1), (8, 1), (10, 1), (11, 0)] [(12, 0), (13, 0), (14, 0)] (by decide +kernel) ?_
      refine wXS ?_
      have hit := grw_item x 1 6 5 n hxb (by omega) (by decide) (by decide)
      simp only [Int.cast_ofNat_Int] at hit
      generalize hgi : (IntKind.i64.wrap (IntKind.u64.wrap (IntKind.u64.wrap (x.tdiv 6) + IntKind.u64.wrap (IntKind.u64.wrap (((1 : Nat) : Int)) * 5)))).tmod (n : Int) = it at *
      refine Nd.mk ⟨Nat.le_refl 1, rfl, rfl⟩ ?_
      (conv => whnf)
      refine AppN.grow 6 (iC its) [.int .i64 it] rfl rfl ⟨Nat.le_refl 1, ⟨by show (its.length + 1) * 8 ≤ _; omega, by show its.length + 1 < _; omega⟩, Nat.one_ne_zero⟩ fun wb wc hwc _ => ?_
      have hcl : iC its ++ [.int .i64 it] = iC (its ++ [it]) := by simp [iC]
      have hll : its.length + 1 = (its ++ [it]).length := by simp
      rw [hcl, hll]
      rw [hll] at hwc
      refine wXS ?_
      refine ⟨(1 + 1, nms ++ [([64, 98] : List UInt8)], ⟨some xb, xc⟩, its ++ [it], ⟨some wb, wc⟩), ⟨by omega, by rw [← hln, hnl], by rw [← hll, hil], ?_, ?_, ⟨(fun h => by cases h), hxc, fun h => by have : xc = 0 := h; omega⟩, (fun h => by cases h), hwc, fun h => by have : wc = 0 := h; omega⟩, by show 3 - (1 + 1) < 3 - 1; omega, ?_, wkE_refl _, wkE_refl _, wkE_refl _, wkE_refl _, trivial, wkE_refl _, wkE_refl _, trivial⟩
      ·intro y hy
       rcases List.mem_append.1 hy with hy | hy
       ·exact hip y hy
       ·rw [List.mem_singleton.1 hy]; exact hit
      ·intro y hy
       rcases List.mem_append.1 hy with hy | hy
       ·exact hnw y hy
       ·rw [List.mem_singleton.1 hy]; decide
      exact wKK
    ·clear hc3
     have hna : at0 ob0 = none → its = [] := fun h => by
      cases ob0 with
      | none => exact List.eq_nil_of_length_eq_zero (ho.1 rfl).1
      | some b => cases h
     have hnn : at0 nb0 = none → nms = [] := fun h => by
      cases nb0 with
      | none => exact List.eq_nil_of_length_eq_zero (ho2.1 rfl).1
      | some b => cases h
     have hoc2' : its.length ≤ ocap := ho.2.1
     have hnc2' : nms.length ≤ ncap := ho2.2.1
     refine wXS ?_
     refine ⟨.inr (.inr ([68], nms, ⟨nb0, ncap⟩, its, ⟨ob0, ocap⟩)), ⟨⟨hnn, hna, by show nms.length ≤ _; omega, by show its.length ≤ _; omega, (fun s h => Nat.le_trans (hnw s h) (by decide)), Nat.le_of_ble_eq_true rfl, hnc2', hoc2'⟩, hip, by show its.length ≤ 4; omega, by show nms.length ≤ 2; omega, Nat.le_of_ble_eq_true rfl⟩, ?_, wkE_refl _, wkE_refl _, wkE_refl _, wkE_refl _, trivial, wkE_refl _, wkE_refl _, trivial⟩
     exact wKK
 ·have hin : i = n := by omega
  subst hin
  refine wXS ?_
  refine LoopN.introS (Nat × List CellP) (fun ⟨j, m⟩ => j ≤ i ∧ m.length = i ∧ (∀ p ∈ m, GrwC i p)) (fun ⟨j, m⟩ => mkS Tryz.f12.ntmps 0 [(0, .c (.v (.slice a L.length ca))), (3, .c (.v (.int .i64 (i : Int)))), (4, .c (.v (.slice (at0 ob) i oc))), (10, .c (.v (.int .i64 (j : Int))))]) (fun ⟨j, m⟩ => [.fact (fun w => SlAt a (L.length * 1) (iC L) w), .app 57 5 (grC m) (at0 ob) i oc, .fact (fun w => ∀ p ∈ m, CellF p w)]) (fun ⟨j, _⟩ => i - j) [] rfl (fun _ => rfl) (fun _ => rfl) (fun _ _ => ⟨trivial, trivial, trivial, trivial⟩) ?_ ?_
  ·refine ⟨(0, m), ⟨Nat.zero_le _, hml, hmo⟩, ?_, _, turn_refl _, wkE_refl _, ?_, wkE_refl _, trivial⟩
   ·(repeat' (first | exact trivial | refine And.intro (by with_reducible rfl) ?_ | (with_reducible exact wkC_refl _) | (with_reducible exact wkCs_refl _) | refine And.intro ?_ ?_))
    all_goals first | rfl | rw [hml]
   ·rw [← hml]; exact wkE_refl _
  rintro ⟨j, m2⟩ ⟨hj, hm2l, hm2o⟩
  refine wXS ?_
  refine brd_dec (fun h2 => ?_) (fun h2 => ?_)
  ·obtain ⟨p, hp⟩ : ∃ p, m2[j]? = some p := ⟨_, List.getElem?_eq_getElem (by omega)⟩
   obtain ⟨gb, rfl⟩ : ∃ gb, ob = some gb := by
    cases ob with
    | none => have := hoa rfl; subst this; simp only [List.length_nil] at hml; omega
    | some gb => exact ⟨gb, rfl⟩
   obtain ⟨z, hz⟩ : ∃ z, L[j]? = some z := ⟨_, List.getElem?_eq_getElem (by omega)⟩
   have hsa : a.isSome = true := by
    cases a with
    | none => rw [ha rfl] at hz; cases hz
    | some b => rfl
   refine wXS ?_
   refine Nd.mk ⟨rfl, by omega, by omega⟩ ?_
   refine wXS ?_
   refine LdN.fld (.int .i64 p.c.kind) rfl (fun w hw => hw.2.1) (by rw [Int.toNat_natCast]; exact grC_get m2 j 0 (by decide) hp) ?_
   refine wXS ?_
   refine brd_eq (fun h7 => ?_) (fun h7 => ?_)
   rotate_left
   ·refine wXS ?_
    refine ⟨(j + 1, m2), ⟨by omega, hm2l, hm2o⟩, by show i - (j + 1) < i - j; omega, ?_, _, turn_refl _, wkE_refl _, wkE_refl _, wkE_refl _, trivial⟩
    exact wKK
   refine wXS ?_
   refine Nd.mk ⟨hsa, by omega, by omega⟩ ?_
   refine wXS ?_
   refine LdN.one (.int .i64 z) rfl (fun w hw => hw.1) (by rw [Int.toNat_natCast]; show (iC L)[j * 1]? = _; rw [Nat.mul_one]; exact iC_get hz) ?_
   refine wXR ?_
   have hXb := wrap_u64_bd z
   generalize IntKind.u64.wrap z = X at *
   have hx0 : IntKind.u64.wrap (X.tdiv 9) = X / 9 := by rw [Int.tdiv_eq_ediv_of_nonneg (by omega)]; exact wrap_u64 (by omega)
   rw [hx0]
   obtain ⟨x, hx⟩ : ∃ x, x = X / 9 := ⟨_, rfl⟩
   rw [← hx]
   have hxb : 0 ≤ x ∧ x ≤ 2049638230412172402 := by omega
   clear hx0 hXb
   refine SeqN.plain ?_
   refine wXR ?_
   refine DrawN.plan [0, 1, 2, 4, 6, 9] [(3, 1), (5, 1), (7, 1), (8, 1), (10, 1), (11, 0), (12, 1), (13, 1)] [(14, 0)] (by decide +kernel) ?_
   refine wXR ?_
   obtain ⟨v1, hv1⟩ : ∃ v, v = (IntKind.i64.wrap x).tmod (i : Int) := ⟨_, rfl⟩
   obtain ⟨v2, hv2⟩ : ∃ v, v = (IntKind.i64.wrap (IntKind.u64.wrap (x.tdiv 3))).tmod (i : Int) := ⟨_, rfl⟩
   rw [← hv1, ← hv2]
   refine RwN.known [.int .i64 v1, .int .i64 v2] rfl fun ib => ?_
   refine wXR ?_
   refine Nd.mk ⟨rfl, by omega, by omega⟩ ?_
   refine wXR ?_
   have hgl2 : (grC m2).length = i * 5 := by rw [grC_len, hm2l]
   refine EffW.appTo (i := 1) (q := j * 5 + 4) (ys := [.slice (some ⟨ib, 0, none⟩) 2 2]) (grC (m2.set j (setI p [v1, v2] (some ⟨ib, 0, none⟩) 2))) 5 rfl (by rw [Int.toNat_natCast]; show AV.c (CV.v (Value.pointer (some (((⟨gb, 0, none⟩ : Addr).add (j * 5)).add 4)))) = _; rw [add_lit0, add_lit]) rfl rfl rfl rfl rfl (by show _ + 1 ≤ _ * 5; omega) (by rw [put_set _ (by omega)]; exact grC_set [v1, v2] _ 2 hp) rfl ?_
   have hpm := List.mem_of_getElem? hp
   have hq1 : 0 ≤ v1 := by rw [hv1, wrap_i64 (by omega)]; exact Int.tmod_nonneg _ (by omega)
   have hq2 : 0 ≤ v2 := by
    have : 0 ≤ x.tdiv 3 ∧ x.tdiv 3 ≤ x := by rw [Int.tdiv_eq_ediv_of_nonneg hxb.1]; omega
    rw [hv2, wrap_u64 (by omega), wrap_i64 (by omega)]
    exact Int.tmod_nonneg _ (by omega)
   clear hv1 hv2
   have hi12 : i ≤ 12 := by omega
   refine wX ?_
   refine SeqN.join (List Int × Nat × Nat) (fun ⟨its, b, c⟩ => (∀ y ∈ its, 0 ≤ y) ∧ 2 ≤ its.length ∧ its.length ≤ 4 ∧ its.take 2 = [v1, v2] ∧ its.length ≤ c) (fun _ => mkS Tryz.f12.ntmps 0 [(0, .c (.v (.slice a L.length ca))), (3, .c (.v (.int .i64 (i : Int)))), (4, .c (.v (.slice (at0 (some gb)) i oc))), (10, .c (.v (.int .i64 (j : Int))))])
    (fun ⟨its, b, c⟩ => [.fact (fun w => SlAt a (L.length * 1) (iC L) w), .app 57 5 (grC (m2.set j (setI p its (some ⟨b, 0, none⟩) c))) (some ⟨gb, 0, none⟩) i oc, .fact (fun w => ∀ p ∈ m2, CellF p w), .app 3 1 (iC its) (some ⟨b, 0, none⟩) its.length c])
    (fun _ _ => Nat.le_of_ble_eq_true rfl) (fun _ _ => rfl) (fun _ _ => okHB_eq rfl) ?_ ?_
   rotate_left
   ·rintro ⟨its, b, c⟩ ⟨hi0, hi2, hi4, htk, hic⟩
    have htk2 : (iC its).take 2 = iC [v1, v2] := by unfold iC; rw [← List.map_take, htk]
    refine wXS ?_
    have hG : ∀ q ∈ m2.set j (setI p its (some ⟨b, 0, none⟩) c), GrwC i q := grw_set hm2o hpm b c hi0 hi4 hic
    have hlen : (m2.set j (setI p its (some ⟨b, 0, none⟩) c)).length = i := by rw [List.length_set, hm2l]
    have has := as_o (at0 (some gb)) oc (m2.set j (setI p its (some ⟨b, 0, none⟩) c)) (fun h => by cases h) (grw_small hG (by omega)) (fun q hq => (hG q hq).ok)
    rw [hlen] at has
    refine factG (fun _ => rfl) has ?_ fun st hst => ?_
    ·exact fun w hw => ⟨by rw [hlen]; exact hw.2.1, set_rows hpm hw.2.2.1 hw.2.2.2.1⟩
    obtain ⟨t, ht1, ht2⟩ := Valid_b st.oa st.oc st.m hst.oa (by have := congrArg List.length hst.c; simp only [List.length_map] at this; omega) hst.ok
    refine wXS ?_
    refine call1 (ht2 _ (fun w hw => hst.gr hw.2.2.2.2.1 hw.2.2.2.2.2.1)) ?_
    cases t with
    | true =>
     refine wXS ?_
     refine ⟨(j + 1, m2.set j (setI p its (some ⟨b, 0, none⟩) c)), ⟨by omega, hlen, hG⟩, by show i - (j + 1) < i - j; omega, ?_, [.fact (fun w => SlAt a (L.length * 1) (iC L) w), .app 57 5 (grC (m2.set j (setI p its (some ⟨b, 0, none⟩) c))) (some ⟨gb, 0, none⟩) i oc, .fact (fun w => ∀ q ∈ m2.set j (setI p its (some ⟨b, 0, none⟩) c), CellF q w), .dead, .dead, .dead], turnS ⟨.inr (.inl rfl), .inr (.inl rfl), .inr (.inr ⟨_, rfl, fun w hw => set_rows hpm hw.2.1 hw.2.2.1⟩), by repeat (first | exact trivial | refine ⟨.inl rfl, ?_⟩)⟩, wkE_refl _, wkE_refl _, wkE_refl _, trivial⟩
     exact wKK
    | false =>
     have hp2 : (m2.set j (setI p its (some ⟨b, 0, none⟩) c))[j]? = some (setI p its (some ⟨b, 0, none⟩) c) := by rw [List.getElem?_set_self (by omega)]
     have hG2 : ∀ q ∈ m2.set j (setI p [v1, v2] (some ⟨b, 0, none⟩) c), GrwC i q := grw_set hm2o hpm b c (by simp [hq1, hq2]) (Nat.le_of_ble_eq_true rfl) (by show 2 ≤ _; omega)
     have hlen2 : (m2.set j (setI p [v1, v2] (some ⟨b, 0, none⟩) c)).length = i := by rw [List.length_set, hm2l]
     have hgl3 : (grC (m2.set j (setI p its (some ⟨b, 0, none⟩) c))).length = i * 5 := by rw [grC_len, hlen]
     refine wXS ?_
     refine Nd.mk ⟨rfl, by omega, by omega⟩ ?_
     refine wXS ?_
     refine LdN.fld (.slice (some ⟨b, 0, none⟩) (List.length its) c) rfl (fun w hw => hw.2.1) (by rw [Int.toNat_natCast]; exact grC_get _ j 4 (by decide) hp2) ?_
     refine wXS ?_
     refine ReadW.slc_h (ob := some b) rfl (by kernel_rfl) rfl rfl ⟨by decide, by first | decide | omega⟩ ?_
     refine wXS ?_
     refine Nd.mk ⟨rfl, by omega, by omega⟩ ?_
     refine wXS ?_
     refine EffW.appTo (i := 1) (q := j * 5 + 4) (ys := [.slice (some ⟨b, 0, none⟩) 2 c]) (grC (m2.set j (setI p [v1, v2] (some ⟨b, 0, none⟩) c))) 5 rfl (by rw [Int.toNat_natCast]; show AV.c (CV.v (Value.pointer (some (((⟨gb, 0, none⟩ : Addr).add (j * 5)).add 4)))) = _; rw [add_lit0, add_lit]) rfl rfl rfl rfl rfl (by show _ + 1 ≤ _ * 5; omega) (by rw [put_set _ (by omega)]; have := grC_set [v1, v2] (some ⟨b, 0, none⟩) c hp2; rw [List.set_set] at this; exact this) rfl ?_
     refine wXS ?_
     refine ⟨(j + 1, m2.set j (setI p [v1, v2] (some ⟨b, 0, none⟩) c)), ⟨by omega, hlen2, hG2⟩, by show i - (j + 1) < i - j; omega, ?_, [.fact (fun w => SlAt a (L.length * 1) (iC L) w), .app 57 5 (grC (m2.set j (setI p [v1, v2] (some ⟨b, 0, none⟩) c))) (some ⟨gb, 0, none⟩) i oc, .fact (fun w => ∀ q ∈ m2.set j (setI p [v1, v2] (some ⟨b, 0, none⟩) c), CellF q w), .dead, .dead, .dead], turnS ⟨.inr (.inl rfl), .inr (.inl rfl), .inr (.inr ⟨_, rfl, fun w hw => set_rows hpm hw.2.1 (by have h := SlAt.take (j := 2) hw.2.2.1 (show 2 ≤ its.length * 1 by omega); rw [htk2] at h; exact h)⟩), by repeat (first | exact trivial | refine ⟨.inl rfl, ?_⟩)⟩, wkE_refl _, wkE_refl _, wkE_refl _, trivial⟩
     exact wKK
   refine wXS ?_
   refine brd_dec (fun h3 => ?_) (fun h3 => ?_)
   rotate_left
   ·refine wXS ?_
    refine ⟨([v1, v2], ib, 2), ⟨by simp [hq1, hq2], Nat.le_refl 2, Nat.le_of_ble_eq_true rfl, rfl, Nat.le_refl 2⟩, ?_, wkE_refl _, wkE_refl _, wkE_refl _, wkE_refl _, trivial⟩
    exact wKK
   refine wXS ?_
   refine brd_eq (fun h4 => ?_) (fun h4 => ?_)
   rotate_left
   ·refine wXS ?_
    refine ⟨([v1, v2], ib, 2), ⟨by simp [hq1, hq2], Nat.le_refl 2, Nat.le_of_ble_eq_true rfl, rfl, Nat.le_refl 2⟩, ?_, wkE_refl _, wkE_refl _, wkE_refl _, wkE_refl _, trivial⟩
    exact wKK
   have hp1 : (m2.set j (setI p [v1, v2] (some ⟨ib, 0, none⟩) 2))[j]? = some (setI p [v1, v2] (some ⟨ib, 0, none⟩) 2) := by rw [List.getElem?_set_self (by omega)]
   have hgl4 : (grC (m2.set j (setI p [v1, v2] (some ⟨ib, 0, none⟩) 2))).length = i * 5 := by rw [grC_len, List.length_set, hm2l]
   refine wXS ?_
   refine DrawN.plan [0, 1, 2, 3, 7, 10, 12, 15] [(4, 1), (5, 1), (6, 1), (8, 1), (9, 1), (11, 1), (13, 1), (14, 1), (16, 1), (17, 0)] [(18, 0), (19, 0), (20, 0), (21, 0)] (by decide +kernel) ?_
   refine wXS ?_
   refine Nd.mk ⟨rfl, by omega, by omega⟩ ?_
   refine wXS ?_
   refine LdN.fld (.slice (some ⟨ib, 0, none⟩) 2 2) rfl (fun w hw => hw.2.1) (by rw [Int.toNat_natCast]; exact grC_get _ j 4 (by decide) hp1) ?_
   refine wXS ?_
   obtain ⟨w1, hw1⟩ : ∃ v, v = (IntKind.i64.wrap (IntKind.u64.wrap (x.tdiv 5))).tmod (i : Int) := ⟨_, rfl⟩
   obtain ⟨w2, hw2⟩ : ∃ v, v = (IntKind.i64.wrap (IntKind.u64.wrap (x.tdiv 7))).tmod (i : Int) := ⟨_, rfl⟩
   rw [← hw1, ← hw2]
   have hq3 : 0 ≤ w1 := by
    have : 0 ≤ x.tdiv 5 ∧ x.tdiv 5 ≤ x := by rw [Int.tdiv_eq_ediv_of_nonneg hxb.1]; omega
    rw [hw1, wrap_u64 (by omega), wrap_i64 (by omega)]
    exact Int.tmod_nonneg _ (by omega)
   have hq4 : 0 ≤ w2 := by
    have : 0 ≤ x.tdiv 7 ∧ x.tdiv 7 ≤ x := by rw [Int.tdiv_eq_ediv_of_nonneg hxb.1]; omega
    rw [hw2, wrap_u64 (by omega), wrap_i64 (by omega)]
    exact Int.tmod_nonneg _ (by omega)
   clear hw1 hw2
   refine Nd.mk ⟨Nat.le_of_ble_eq_true rfl, rfl, rfl⟩ ?_
   (conv => whnf)
   refine AppN.grow 3 [.int .i64 v1, .int .i64 v2] [.int .i64 w1, .int .i64 w2] rfl rfl ⟨Nat.le_of_ble_eq_true rfl, ⟨by decide, by decide⟩, Nat.one_ne_zero⟩ fun wb wc hwc _ => ?_
   refine wXS ?_
   refine Nd.mk ⟨rfl, by omega, by omega⟩ ?_
   refine wXS ?_
   refine EffW.appTo (i := 1) (q := j * 5 + 4) (ys := [.slice (some ⟨wb, 0, none⟩) 4 wc]) (grC (m2.set j (setI p [v1, v2, w1, w2] (some ⟨wb, 0, none⟩) wc))) 5 rfl (by rw [Int.toNat_natCast]; show AV.c (CV.v (Value.pointer (some (((⟨gb, 0, none⟩ : Addr).add (j * 5)).add 4)))) = _; rw [add_lit0, add_lit]) rfl rfl rfl rfl rfl (by show _ + 1 ≤ _ * 5; omega) (by rw [put_set _ (by omega)]; have := grC_set [v1, v2, w1, w2] (some ⟨wb, 0, none⟩) wc hp1; rw [List.set_set] at this; exact this) rfl ?_
   refine wXS ?_
   refine ⟨([v1, v2, w1, w2], wb, wc), ⟨by simp [hq1, hq2, hq3, hq4], Nat.le_of_ble_eq_true rfl, Nat.le_refl 4, rfl, hwc⟩, ?_, wkE_refl _, wkE_refl _, wkE_refl _, wkE_refl _, trivial⟩
   exact wKK
  ·have hjn : j = i := by omega
   subst hjn
   have hob : at0 ob = none → m2 = [] := fun h => by
    cases ob with
    | none =>
     have := hoa rfl
     subst this
     simp only [List.length_nil] at hml
     exact List.eq_nil_of_length_eq_zero (by omega)
    | some b => cases h
   have hs2 := grw_small hm2o (by omega)
   refine wXS ?_
   refine loopS Nat (fun k => k ≤ j) (fun k => mkS Tryz.f12.ntmps 0 [(3, .c (.v (.int .i64 (j : Int)))), (4, .c (.v (.slice (at0 ob) j oc))), (12, .c (.v (.int .i64 (k : Int))))]) (fun k => j - k) rfl (fun _ => rfl) 0 (Nat.zero_le _) ?_ ?_
   ·exact wKK
   intro k hk
   refine wXS ?_
   refine brd_dec (fun h3 => ?_) (fun h3 => ?_)
   ·obtain ⟨p, hp⟩ : ∃ p, m2[k]? = some p := ⟨_, List.getElem?_eq_getElem (by omega)⟩
    have hpm := List.mem_of_getElem? hp
    have hpo := hm2o p hpm
    have hpl := hpo.il
    have hsg : (at0 ob).isSome = true := by
     cases hq : at0 ob with
     | none => rw [hob hq] at hp; cases hp
     | some b => rfl
    refine wXS ?_
    refine loopS Nat (fun e => e ≤ p.c.items.length) (fun e => mkS Tryz.f12.ntmps 0 [(3, .c (.v (.int .i64 (j : Int)))), (4, .c (.v (.slice (at0 ob) j oc))), (12, .c (.v (.int .i64 (k : Int)))), (13, .c (.v (.int .i64 (e : Int))))]) (fun e => p.c.items.length - e) rfl (fun _ => rfl) 0 (Nat.zero_le _) ?_ ?_
    ·exact wKK
    intro e he
    refine wXS ?_
    refine Nd.mk ⟨hsg, by omega, by omega⟩ ?_
    refine wXS ?_
    refine LdN.fld (.slice p.ia p.c.items.length p.ic) rfl (fun w hw => hw.2.1) (by rw [Int.toNat_natCast]; exact grC_get m2 k 4 (by decide) hp) ?_
    refine wXS ?_
    refine brd_dec (fun h4 => ?_) (fun h4 => ?_)
    ·obtain ⟨y, hy⟩ : ∃ z, p.c.items[e]? = some z := ⟨_, List.getElem?_eq_getElem (by omega)⟩
     have hya : p.ia.isSome = true := by
      cases hq : p.ia with
      | none => rw [hpo.ok.ia hq] at hy; cases hy
      | some b => rfl
     refine wXS ?_
     refine Nd.mk ⟨hsg, by omega, by omega⟩ ?_
     refine wXS ?_
     refine LdN.fld (.slice p.ia p.c.items.length p.ic) rfl (fun w hw => hw.2.1) (by rw [Int.toNat_natCast]; exact grC_get m2 k 4 (by decide) hp) ?_
     refine wXS ?_
     refine Nd.mk ⟨hya, by omega, by omega⟩ ?_
     refine wXS ?_
     refine LdN.one (.int .i64 y) rfl (fun w hw => (hw.2.2.1 p hpm).2) (by rw [Int.toNat_natCast]; show (iC p.c.items)[e * 1]? = _; rw [Nat.mul_one]; exact iC_get hy) ?_
     refine wXS ?_
     refine brd_dec (fun h5 => absurd h5 (by have := hpo.it y (List.mem_of_getElem? hy); omega)) (fun h5 => ?_)
     refine wXS ?_
     refine ⟨e + 1, by omega, by omega, ?_, wHH⟩
     exact wKK
    ·refine wXS ?_
     refine ⟨k + 1, by omega, by omega, ?_, wHH⟩
     exact wKK
   ·refine wXS ?_
    have has := as_o (at0 ob) oc m2 hob hs2 (fun q hq => (hm2o q hq).ok)
    rw [hm2l] at has
    refine factG (fun _ => rfl) has ?_ fun st hst => ?_
    ·exact fun w hw => ⟨by rw [hm2l]; exact hw.2.1, hw.2.2.1⟩
    obtain ⟨t, ht1, ht2⟩ := Valid_b st.oa st.oc st.m hst.oa (by have := congrArg List.length hst.c; simp only [List.length_map] at this; omega) hst.ok
    refine wXS ?_
    refine call1 (ht2 _ (fun w hw => hst.gr hw.2.2.2.1 hw.2.2.2.2.1)) ?_
    cases t with
    | false =>
     refine wXS ?_
     exact fin_p (fun _ => True) ⟨none, 0, [], rfl, fun _ => rfl, (fun p h => by cases h), ⟨Nat.zero_le _, fun p h => by cases h⟩, .inl rfl, ⟨Nat.zero_le _, fun p h => by cases h⟩, fun w _ => ⟨SlAt.nil, fun p h => by cases h⟩⟩ fun w hw => trivial
    | true =>
     refine wXS ?_
     exact fin_p (GrF (at0 ob) m2) ⟨at0 ob, oc, m2, by rw [hm2l], hob, (fun p hp => (hm2o p hp).ok), hs2, .inr (by rw [← hst.c]; exact ht1.1 rfl), ⟨by omega, fun p hp => ⟨(hm2o p hp).il, (hm2o p hp).nl, (hm2o p hp).tl⟩⟩, fun w hw => hw⟩ fun w hw => ⟨by rw [hm2l]; exact hw.2.1, hw.2.2.1⟩
end Go.Proofs.YtgogonnnojcioaaGreatDoor
namespace Go.Proofs.YtgogonnnojcioaaGreatDoor
open Go.AX Go.RowKit Go.Core Go.Marshal
set_option maxRecDepth 20000
def Rest (f : St → Except Int (Int × St)) (k : Nat) (R : Except Int (Unit × St)) (m : Nat) (st : PS) : Prop := (st.e = 0 → itemsD f k m (toS st) = R) ∧ (st.e ≠ 0 → R = .error st.e)
theorem Rest.tel {f : St → Except Int (Int × St)} {k : Nat} {R : Except Int (Unit × St)} {m : Nat} {st : PS} (h : Rest f k R m st) (hm : st.e = 0 → m = 0) : Tel R () st := by
 by_cases h0 : st.e = 0
 ·have h1 := h.1 h0
  rw [hm h0] at h1
  rw [← h1]
  exact Tel.ok h0
 ·rw [h.2 h0]
  exact ⟨rfl, h0⟩
def putG (k : Nat) (c : Cell) (st : PS) : PS := { st with g := st.g.set k c }
theorem OkD.put {st : PS} {p : RdP} (ok : OkD st p) (k : Nat) (q : CellP) (hk : k < p.m.length) : OkD (putG k q.c st) { p with m := p.m.set k q } :=
 ⟨by show (p.m.set k q).map (·.c) = st.g.set k q.c; rw [List.map_set, ok.g], (fun h => by have := ok.ga h; rw [this] at hk; exact absurd hk (Nat.not_lt_zero _)), ok.ca, ok.sa, ok.sw, ok.gx⟩
end Go.Proofs.YtgogonnnojcioaaGreatDoor
namespace Go.Scan
set_option maxRecDepth 20000
end Go.Scan
namespace Go.Proofs.YtgogonnnojcioaaGreatDoor
open Go.AX Go.RowKit Go.Scan
set_option maxRecDepth 20000
end Go.Proofs.YtgogonnnojcioaaGreatDoor
namespace Go.AX
theorem ownCJ {P : Program} (hm : P.follows .mixedOrders = true) {f : FuncId} {fn : Func} {c : Code} (hf : P.funcs[f]? = some fn) (hn : (fn.name == "runtime.NumGoroutine") = false) (hb : fn.body = some c)
  {args : List AV} {H : List Ent} (hl : Nat.ble args.length fn.ntmps = true) {ι : Type} {inv : ι → Prop} {val : ι → Value} {G : ι → List Ent} (hok : ∀ i, inv i → okH (G i).length (G i)) (hl2 : ∀ i, inv i → H.length ≤ (G i).length)
  (h : initK fn.ntmps args fun s => execJ P c s H (endK P fn.results.toList fun out H' => ∃ i, inv i ∧ out = .val (.c (.v (val i))) ∧ wkH H' (G i))) : SpecH P f args H (RetG inv val G) :=
 SpecH.wkG hok hl2 (specJ_of_exec hm hf hn hb hl h)
end Go.AX
namespace Go.Proofs.YtgogonnnojcioaaGreatDoor
open Go.AX Go.RowKit Go.Core Go.Marshal
set_option maxRecDepth 20000
def ownS (l : List (List UInt8)) (a : Option Addr) (cap : Nat) : Ent := .app 9 1 (strC l) a l.length cap
theorem class_dead {st : PS} (h : st.e ≠ 0) : (classM st).2 = st := by
 unfold classM
 simp only
 rw [next_dead h]
 have h1 : (symM 0 st).2 = st := sym_dead h
 rw [h1, if_neg (by simp [h])]
theorem name_dead {ns : List (List UInt8)} {st : PS} (h : st.e ≠ 0) : (nameM ns st).2 = st := by
 unfold nameM
 simp only
 rw [next_dead h]
 have h1 : (symM 0 st).2 = st := sym_dead h
 rw [h1, if_neg (by simp [h])]
theorem fuel_keep {n : Nat} {a b : PS} (h : a.s.length < n ∨ a.e ≠ 0) (hl : Le 0 a b) (hd : a.e ≠ 0 → b = a) : b.s.length < n ∨ b.e ≠ 0 := by
 rcases h with h | h
 ·exact .inl (Nat.lt_of_le_of_lt hl.s h)
 ·rw [hd h]; exact .inr h
theorem cell_dead_e {n : Nat} {st : PS} (h : st.e ≠ 0) : (cellM n st).2.e ≠ 0 := by
 cases n with
 | zero => show (failM st 99).e ≠ 0; rw [fail_dead h]; exact h
 | succ n => rw [cell_dead n h]; exact h
structure ObP where
 p : RdP
 na : Option Addr
 nc : Nat
 ia : Option Addr
 ic : Nat
theorem check1 (q : CellP) (cb : Nat) (hq : CellOk q) (hn : q.c.names.length ≤ 2000 ∧ q.c.items.length ≤ 2000) (b : Bool) (hb : b = true ↔ ValidP [q.c]) :
  ∀ H, (∀ w, Facts H w → SlAt (some ⟨cb, 0, none⟩) 5 (cellC q) w ∧ CellF q w) → SpecH Tryz.prog 65 (pvs [.slice (some ⟨cb, 0, none⟩) 1 1]) H (Ret (errI b) H) := by
 intro H hH
 obtain ⟨b2, hb2, h⟩ := Check_c (some ⟨cb, 0, none⟩) 1 [q] (fun h => by cases h) ⟨by simp, fun p hp => by obtain rfl := List.mem_singleton.1 hp; exact hn⟩ (fun p hp => by obtain rfl := List.mem_singleton.1 hp; exact hq) H (fun w hw => ⟨by have := (hH w hw).1; simpa [grC] using this, fun p hp => by obtain rfl := List.mem_singleton.1 hp; exact (hH w hw).2⟩)
 have e : b2 = b := by
  rw [Bool.eq_iff_iff, hb, hb2]
  rfl
 rw [← e]
 exact h
theorem slAt_nil (w : World) : SlAt none 0 [] w := ⟨rfl, fun h => absurd h (Nat.lt_irrefl 0), fun j h => absurd h (Nat.not_lt_zero j)⟩
set_option maxHeartbeats 4000000 in
theorem object_rd (n : Nat) (hc : CellC n) (rb : Nat) (st : PS) (p : RdP) (ok : RdOk st p) (bd : Bd st) (hn : st.s.length < n ∨ st.e ≠ 0) : SpecH Tryz.prog 107 [.c (.v (.pointer (some ⟨rb, 0, none⟩)))] (rdE rb st p ++ [.app 9 1 [] none 0 0, .app 3 1 [] none 0 0]) (RetG (ι := ObP) (fun i => RdOk (objM (cellM n) st).2 i.p ∧ CellOk ⟨(objM (cellM n) st).1, i.na, i.nc, i.ia, i.ic⟩) (fun i => cellV ⟨(objM (cellM n) st).1, i.na, i.nc, i.ia, i.ic⟩) fun i => rdE rb (objM (cellM n) st).2 i.p ++ [ownS (objM (cellM n) st).1.names i.na i.nc, ownI (objM (cellM n) st).1.items i.ia i.ic]) := by
 refine ownCJ hm Tryz.func107 (by kernel_rfl) rfl rfl (fun _ _ => okHB_eq rfl) (fun _ _ => Nat.le_of_ble_eq_true rfl) ?_
 have htk := cell_takes n
 have hA : ∀ k ns l st', attrsM (cellM n) (k + 1) ns l st' = if st'.e = 0 then attrsM (cellM n) k (ns ++ [(nameM ns st').1]) (l ++ [(cellM n (nameM ns st').2).1]) (cellM n (nameM ns st').2).2 else ((ns, l), st') := fun k ns l st' => by conv => lhs; unfold attrsM
 have b1 := bd.le (next_le st)
 have ok1 := ok.same (next_keep st)
 have bn := bd.le (class_le st)
 have hnc := fuel_keep hn (class_le st) class_dead
 obtain ⟨R, hR⟩ : ∃ R, objM (cellM n) st = R := ⟨_, rfl⟩
 rw [hR]
 unfold objM at hR
 obtain ⟨R2, hR2⟩ : ∃ R2, attrsM (cellM n) (numM maxN (classM st).2).1 [] [] (numM maxN (classM st).2).2 = R2 := ⟨_, rfl⟩
 rw [hR2] at hR
 have hcl : classM st = ((symM (nextM st).1 (nextM st).2).1, if (symM (nextM st).1 (nextM st).2).2.e = 0 ∧ Go.Scan.icB (symM (nextM st).1 (nextM st).2).1 = false then failM (symM (nextM st).1 (nextM st).2).2 4 else (symM (nextM st).1 (nextM st).2).2) := rfl
 have hb2 := bd.le (nextsym_le st)
 have hsym := symbol_rd rb (nextM st).1 (nextM st).2 p ok1 (by have := b1.pot; omega)
 have oks := fun i hi => ok1.sym (by have := b1.pot; omega) (nextM st).1 (i := i) hi
 have tl := symM_len (nextM st).1 (nextM st).2 (by have := b1.pot; omega) ok1.sw
 have hnx := next_m rb st p
 generalize classM st = cs at hcl bn hnc hR hR2 ⊢
 generalize nextM st = qx at hcl hb2 hsym oks tl hnx ⊢
 obtain ⟨x, s1⟩ := qx
 simp only at hcl hb2 hsym oks tl hnx
 refine SeqN.plain ?_
 refine wXK ?_
 refine BoxN.own ?_
 refine wXK ?_
 refine SeqN.plain ?_
 refine wXK ?_
 refine callG (hnx) [0, 1, 2, 3, 4] rfl ⟨rfl, rfl, rfl, rfl, rfl, trivial⟩ rfl fun _ _ => ?_
 refine wXR ?_
 refine callG hsym [0, 1, 2, 3, 4] rfl ⟨rfl, rfl, rfl, rfl, rfl, trivial⟩ rfl fun i2 hi2 => ?_
 have ok2 := oks i2 hi2
 generalize symM x s1 = qs at hcl hb2 ok2 tl ⊢
 obtain ⟨t, s2⟩ := qs
 simp only at hcl hb2 ok2 tl
 obtain ⟨p2, hp2⟩ : ∃ p2 : RdP, p2 = { p with sa := i2.1, sc := i2.2 } := ⟨_, rfl⟩
 rw [← hp2] at ok2 ⊢
 obtain ⟨t0, s3⟩ := cs
 simp only at hR hR2 bn hnc
 obtain ⟨rfl, h3⟩ : t0 = t ∧ s3 = if s2.e = 0 ∧ Go.Scan.icB t = false then failM s2 4 else s2 := ⟨congrArg Prod.fst hcl, congrArg Prod.snd hcl⟩
 clear hcl
 have ok3 : RdOk s3 p2 := by
  rw [h3]
  split
  ·exact ok2.same (fail_ss s2 4)
  ·exact ok2
 refine wXK ?_
 refine BoxN.known (cellC ⟨⟨0, 0, [], [], []⟩, none, 0, none, 0⟩) rfl fun kb => ?_
 refine wXK ?_
 refine EffW.appTo (i := 8) (q := 0) (ys := cellC ⟨⟨8, 0, t0, [], []⟩, none, 0, none, 0⟩) (cellC ⟨⟨8, 0, t0, [], []⟩, none, 0, none, 0⟩) 5 rfl rfl rfl rfl rfl rfl rfl (Nat.le_of_ble_eq_true rfl) rfl rfl ?_
 refine wXR ?_
 refine SeqN.join Unit (fun _ => True) (fun _ => mkS Tryz.f107.ntmps 0 [(0, .c (.v (.pointer (some ⟨rb, 0, none⟩)))), (2, .c (.lp 7 0)), (3, .c (.v (.pointer (some ⟨kb, 0, none⟩))))])
  (fun _ => rdE rb s3 p2 ++ [ownS [] none 0, ownI [] none 0, .blk 57 [.v (.int .i64 0), .v (.int .i64 0), .v (.string ⟨#[]⟩), .v (.slice none 0 0), .v (.slice none 0 0)], .app 57 5 (cellC ⟨⟨8, 0, t0, [], []⟩, none, 0, none, 0⟩) (some ⟨kb, 0, none⟩) 1 1]) (fun _ _ => Nat.le_of_ble_eq_true rfl) (fun _ _ => rfl) (fun _ _ => okHB_eq rfl) ?_ ?_
 ·refine SeqN.plain ?_
  refine wXR ?_
  refine LdN.one (a := some ⟨rb, 0, none⟩) (q := 4) (.int .i64 s2.e) rfl (fun w hw => hw.1) rfl ?_
  refine wXR ?_
  by_cases he : s2.e = 0
  ·rw [show (s2.e == 0) = true by rw [he]; rfl]
   refine wXR ?_
   refine LdN.agg (a := some ⟨kb, 0, none⟩) (q := 0) (cellC ⟨⟨8, 0, t0, [], []⟩, none, 0, none, 0⟩) rfl (fun w hw => hw.2.2.2.2.2.2.2.1) rfl (fun j _ => by rw [Nat.zero_add]) ?_
   refine wXR ?_
   refine RwN.known (cellC ⟨⟨8, 0, t0, [], []⟩, none, 0, none, 0⟩) rfl fun cb => ?_
   refine wXR ?_
   have hF := fun (w : World) (h : SlAt (some ⟨cb, 0, none⟩) 5 (cellC ⟨⟨8, 0, t0, [], []⟩, none, 0, none, 0⟩) w) => (show SlAt (some ⟨cb, 0, none⟩) 5 (cellC ⟨⟨8, 0, t0, [], []⟩, none, 0, none, 0⟩) w ∧ CellF ⟨⟨8, 0, t0, [], []⟩, none, 0, none, 0⟩ w from ⟨h, slAt_nil w, slAt_nil w⟩)
   have hck := check1 ⟨⟨8, 0, t0, [], []⟩, none, 0, none, 0⟩ cb ⟨fun _ => rfl, fun _ => rfl, Nat.zero_le _, Nat.zero_le _, (fun s hs => by cases hs), by show t0.length ≤ _; omega, Nat.le_refl _, Nat.le_refl _⟩ ⟨Nat.zero_le _, Nat.zero_le _⟩ (Go.Scan.icB t0) (valid_class t0).symm
   cases hic : Go.Scan.icB t0 with
   | true =>
    rw [hic] at hck h3
    rw [if_neg (fun h => by cases h.2)] at h3
    subst h3
    refine call1 (hck _ (fun w hw => hF w hw.2.2.2.2.2.2.2.2.1)) ?_
    refine wXR ?_
    exact ⟨(), trivial, by (repeat' (first | exact trivial | refine And.intro (by with_reducible rfl) ?_ | (with_reducible exact wkC_refl _) | (with_reducible exact wkCs_refl _) | refine And.intro ?_ ?_)), wHH⟩
   | false =>
    rw [hic] at hck h3
    rw [if_pos ⟨he, rfl⟩] at h3
    subst h3
    refine call1 (hck _ (fun w hw => hF w hw.2.2.2.2.2.2.2.2.1)) ?_
    refine wXR ?_
    refine callG (fail_m rb s2 p2 4) [0, 1, 2, 3, 4] rfl ⟨rfl, rfl, rfl, rfl, rfl, trivial⟩ rfl fun _ _ => ?_
    refine wXR ?_
    exact ⟨(), trivial, by (repeat' (first | exact trivial | refine And.intro (by with_reducible rfl) ?_ | (with_reducible exact wkC_refl _) | (with_reducible exact wkCs_refl _) | refine And.intro ?_ ?_)), wHH⟩
  ·rw [show (s2.e == 0) = false by simpa using he]
   rw [if_neg (fun h => he h.1)] at h3
   subst h3
   refine wXR ?_
   exact ⟨(), trivial, by (repeat' (first | exact trivial | refine And.intro (by with_reducible rfl) ?_ | (with_reducible exact wkC_refl _) | (with_reducible exact wkCs_refl _) | refine And.intro ?_ ?_)), wHH⟩
 rintro ⟨⟩ -
 refine SeqN.plain ?_
 refine wXR ?_
 refine callG (number_m rb s3 p2 maxN (by decide)) [0, 1, 2, 3, 4] rfl ⟨rfl, rfl, rfl, rfl, rfl, trivial⟩ rfl fun _ _ => ?_
 have bn4 := bn.le (num_le maxN s3)
 have ok4 := ok3.same (num_keep maxN s3)
 have hm4 := num_most maxN s3
 have hn4 := fuel_keep hnc (num_le maxN s3) (fun h => by rw [num_dead h])
 generalize numM maxN s3 = qn at hR2 bn4 ok4 hm4 hn4 ⊢
 obtain ⟨m, s4⟩ := qn
 simp only at hR2 bn4 ok4 hm4 hn4
 have hm5 : m ≤ 1000000000000000 := hm4
 refine wXR ?_
 refine SeqN.plain ?_
 refine SeqN.plain ?_
 refine wXR ?_
 refine LoopN.intro (Nat × List (List UInt8) × List Int × PS × ObP) (fun ⟨i, ns, l, st, q⟩ => attrsM (cellM n) (m - i) ns l st = R2 ∧ i ≤ m ∧ RdOk st q.p ∧ Bd st ∧ (st.s.length < n ∨ st.e ≠ 0) ∧ l.length + st.s.length + liv st ≤ 30001 ∧ ns.length = l.length ∧ (q.na = none → ns = []) ∧ (q.ia = none → l = []) ∧ ns.length ≤ q.nc ∧ l.length ≤ q.ic ∧ ∀ s ∈ ns, s.length ≤ 30000)
  (fun ⟨i, _, _, _, _⟩ => mkS Tryz.f107.ntmps 0 [(0, .c (.v (.pointer (some ⟨rb, 0, none⟩)))), (2, .c (.lp 7 0)), (3, .c (.v (.pointer (some ⟨kb, 0, none⟩)))), (4, .c (.v (.int .i64 (m : Int)))), (5, .c (.v (.int .i64 (i : Int))))])
  (fun ⟨_, ns, l, st, ⟨p, na, nc, ia, ic⟩⟩ => rdE rb st p ++ [ownS ns na nc, ownI l ia ic, .blk 57 [.v (.int .i64 0), .v (.int .i64 0), .v (.string ⟨#[]⟩), .v (.slice none 0 0), .v (.slice none 0 0)], .app 57 5 (cellC ⟨⟨8, 0, t0, ns, l⟩, na, nc, ia, ic⟩) (some ⟨kb, 0, none⟩) 1 1]) (fun ⟨_, _, _, st, _⟩ => if st.e = 0 then st.s.length + 1 else 0) [] rfl
  (fun _ => rfl) (fun _ => rfl) (fun _ _ => okHB_eq rfl) ⟨(0, [], [], s4, ⟨p2, none, 0, none, 0⟩), ⟨hR2, Nat.zero_le _, ok4, bn4, hn4, ?_, rfl, fun _ => rfl, fun _ => rfl, Nat.le_refl _, Nat.le_refl _, fun s hs => by cases hs⟩, ?_, ?_⟩ ?_
 ·have := bn4.pot
  unfold liv
  show 0 + s4.s.length + _ ≤ _
  split <;> omega
 ·exact wKK
 ·exact ⟨wkE_refl _, wkE_refl _, wkE_refl _, wkE_refl _, wkE_refl _, wkE_refl _, wkE_refl _, wkE_refl _, wkE_refl _, wHH⟩
 rintro ⟨i, ns, l, st5, ⟨p5, na, nc, ia, ic⟩⟩ ⟨h1, h2, h3, h4, h5, h6, h7, h8, h9, h10, h11, h12⟩
 simp only at h8 h9 h10 h11 h3
 refine SeqN.plain ?_
 refine SeqN.plain ?_
 refine wXR ?_
 by_cases hi : i < m
 ·rw [show decide ((i : Int) < (m : Int)) = true by simpa using hi]
  obtain ⟨k, hk⟩ : ∃ k, m - i = k + 1 := ⟨m - i - 1, by omega⟩
  rw [hk, hA] at h1
  refine wXR ?_
  refine LdN.one (a := some ⟨rb, 0, none⟩) (q := 4) (.int .i64 st5.e) rfl (fun w hw => hw.1) rfl ?_
  refine wXR ?_
  by_cases he5 : st5.e = 0
  ·rw [show (st5.e == 0) = true by rw [he5]; rfl]
   rw [if_pos he5] at h1
   refine wXR ?_
   refine SeqN.plain ?_
   refine SeqN.plain ?_
   refine wXR ?_
   refine callG (next_m rb st5 p5) [0, 1, 2, 3, 4] rfl ⟨rfl, rfl, rfl, rfl, rfl, trivial⟩ rfl fun _ _ => ?_
   have b5 := h4.le (next_le st5)
   have o5 := h3.same (next_keep st5)
   have l5 := name_le ns st5
   have d5 := fuel_keep h5 l5 name_dead
   have hnm : nameM ns st5 = ((symM (nextM st5).1 (nextM st5).2).1, if (symM (nextM st5).1 (nextM st5).2).2.e = 0 ∧ ((symM (nextM st5).1 (nextM st5).2).1 ∈ ns ∨ Go.Scan.iiB (symM (nextM st5).1 (nextM st5).2).1 = false) then failM (symM (nextM st5).1 (nextM st5).2).2 4 else (symM (nextM st5).1 (nextM st5).2).2) := rfl
   have hsy5 := symbol_rd rb (nextM st5).1 (nextM st5).2 p5 o5 (by have := b5.pot; omega)
   have os5 := fun i hi => o5.sym (by have := b5.pot; omega) (nextM st5).1 (i := i) hi
   have tl5 := symM_len (nextM st5).1 (nextM st5).2 (by have := b5.pot; omega) o5.sw
   generalize nameM ns st5 = qm at h1 hnm l5 d5
   generalize nextM st5 = qx at hnm hsy5 os5 tl5 ⊢
   obtain ⟨x5, s51⟩ := qx
   simp only at hnm hsy5 os5 tl5
   refine wXR ?_
   refine callG hsy5 [0, 1, 2, 3, 4] rfl ⟨rfl, rfl, rfl, rfl, rfl, trivial⟩ rfl fun i6 hi6 => ?_
   have ok6 := os5 i6 hi6
   generalize symM x5 s51 = qs at hnm ok6 tl5 ⊢
   obtain ⟨t6, s6⟩ := qs
   simp only at hnm ok6 tl5
   obtain ⟨p6, hp6⟩ : ∃ p6 : RdP, p6 = { p5 with sa := i6.1, sc := i6.2 } := ⟨_, rfl⟩
   rw [← hp6] at ok6 ⊢
   obtain ⟨t60, s8⟩ := qm
   simp only at h1 l5 d5
   obtain ⟨rfl, h8s⟩ : t60 = t6 ∧ s8 = if s6.e = 0 ∧ (t6 ∈ ns ∨ Go.Scan.iiB t6 = false) then failM s6 4 else s6 := ⟨congrArg Prod.fst hnm, congrArg Prod.snd hnm⟩
   clear hnm
   have ok7 : RdOk s8 p6 := by
    rw [h8s]
    split
    ·exact ok6.same (fail_ss s6 4)
    ·exact ok6
   have b7 := h4.le l5
   refine wXR ?_
   refine SeqN.plain ?_
   refine wXR ?_
   refine RwN.known [.string (bs t60)] rfl fun nb => ?_
   refine wXR ?_
   refine RwN.known [.int .i64 0] rfl fun zb => ?_
   refine wXR ?_
   refine RwN.known (cellC ⟨⟨8, 0, [65], [t60], [0]⟩, some ⟨nb, 0, none⟩, 1, some ⟨zb, 0, none⟩, 1⟩) rfl fun ob => ?_
   refine wXR ?_
   refine SeqN.join Unit (fun _ => True) (fun _ => mkS Tryz.f107.ntmps 0 [(0, .c (.v (.pointer (some ⟨rb, 0, none⟩)))), (2, .c (.lp 7 0)), (3, .c (.v (.pointer (some ⟨kb, 0, none⟩)))), (4, .c (.v (.int .i64 (m : Int)))), (5, .c (.v (.int .i64 (i : Int)))), (6, .c (.v (.string (bs t60))))])
    (fun _ => rdE rb s8 p6 ++ [ownS ns na nc, ownI l ia ic, .blk 57 [.v (.int .i64 0), .v (.int .i64 0), .v (.string ⟨#[]⟩), .v (.slice none 0 0), .v (.slice none 0 0)], .app 57 5 (cellC ⟨⟨8, 0, t0, ns, l⟩, na, nc, ia, ic⟩) (some ⟨kb, 0, none⟩) 1 1, .dead, .dead, .dead]) (fun _ _ => Nat.le_of_ble_eq_true rfl) (fun _ _ => rfl) (fun _ _ => okHB_eq rfl) ?_ ?_
   ·refine SeqN.plain ?_
    refine wXR ?_
    refine LdN.one (a := some ⟨rb, 0, none⟩) (q := 4) (.int .i64 s6.e) rfl (fun w hw => hw.1) rfl ?_
    refine wXR ?_
    have hqo : CellOk ⟨⟨8, 0, [65], [t60], [0]⟩, some ⟨nb, 0, none⟩, 1, some ⟨zb, 0, none⟩, 1⟩ := ⟨(fun h => by cases h), (fun h => by cases h), by show 1 ≤ _; omega, by show 1 ≤ _; omega, fun s hs => by obtain rfl := List.mem_singleton.1 hs; omega, by show 1 ≤ _; omega, Nat.le_refl _, Nat.le_refl _⟩
    have hck := check1 ⟨⟨8, 0, [65], [t60], [0]⟩, some ⟨nb, 0, none⟩, 1, some ⟨zb, 0, none⟩, 1⟩ ob hqo ⟨by show 1 ≤ _; omega, by show 1 ≤ _; omega⟩ (Go.Scan.iiB t60) (valid_name t60).symm
    have hll : l.length ≤ 30001 := by omega
    by_cases he6 : s6.e = 0
    ·rw [show (s6.e == 0) = true by rw [he6]; rfl]
     refine wXR ?_
     refine LdN.one (a := some ⟨kb, 0, none⟩) (q := 3) (.slice na ns.length nc) rfl (fun w hw => hw.2.2.2.2.2.2.2.1) rfl ?_
     refine wXR ?_
     refine call1 (Contains_m na ns nc t60 h8 (by omega) _ (fun w hw => hw.2.2.2.2.2.1)) ?_
     by_cases hmem : t60 ∈ ns
     ·rw [show decide (t60 ∈ ns) = true by simpa using hmem]
      rw [if_pos ⟨he6, .inl hmem⟩] at h8s
      subst h8s
      refine wXR ?_
      refine callG (fail_m rb s6 p6 4) [0, 1, 2, 3, 4] rfl ⟨rfl, rfl, rfl, rfl, rfl, trivial⟩ rfl fun _ _ => ?_
      refine wXR ?_
      exact ⟨(), trivial, by (repeat' (first | exact trivial | refine And.intro (by with_reducible rfl) ?_ | (with_reducible exact wkC_refl _) | (with_reducible exact wkCs_refl _) | refine And.intro ?_ ?_)), wHH⟩
     ·rw [show decide (t60 ∈ ns) = false by simpa using hmem]
      refine wXR ?_
      cases hii : Go.Scan.iiB t60 with
      | true =>
       rw [hii] at hck h8s
       rw [if_neg (fun h => h.2.elim hmem (fun h => by cases h))] at h8s
       subst h8s
       refine call1 (hck _ (fun w hw => ⟨hw.2.2.2.2.2.2.2.2.2.2.1, hw.2.2.2.2.2.2.2.2.1, hw.2.2.2.2.2.2.2.2.2.1⟩)) ?_
       refine wXR ?_
       exact ⟨(), trivial, by (repeat' (first | exact trivial | refine And.intro (by with_reducible rfl) ?_ | (with_reducible exact wkC_refl _) | (with_reducible exact wkCs_refl _) | refine And.intro ?_ ?_)), wHH⟩
      | false =>
       rw [hii] at hck h8s
       rw [if_pos ⟨he6, .inr rfl⟩] at h8s
       subst h8s
       refine call1 (hck _ (fun w hw => ⟨hw.2.2.2.2.2.2.2.2.2.2.1, hw.2.2.2.2.2.2.2.2.1, hw.2.2.2.2.2.2.2.2.2.1⟩)) ?_
       refine wXR ?_
       refine callG (fail_m rb s6 p6 4) [0, 1, 2, 3, 4] rfl ⟨rfl, rfl, rfl, rfl, rfl, trivial⟩ rfl fun _ _ => ?_
       refine wXR ?_
       exact ⟨(), trivial, by (repeat' (first | exact trivial | refine And.intro (by with_reducible rfl) ?_ | (with_reducible exact wkC_refl _) | (with_reducible exact wkCs_refl _) | refine And.intro ?_ ?_)), wHH⟩
    ·rw [show (s6.e == 0) = false by simpa using he6]
     rw [if_neg (fun h => he6 h.1)] at h8s
     subst h8s
     refine wXR ?_
     exact ⟨(), trivial, by (repeat' (first | exact trivial | refine And.intro (by with_reducible rfl) ?_ | (with_reducible exact wkC_refl _) | (with_reducible exact wkCs_refl _) | refine And.intro ?_ ?_)), wHH⟩
   rintro ⟨⟩ -
   have hll : l.length ≤ 30001 := by omega
   refine SeqN.plain ?_
   refine wX ?_
   refine LdN.one (a := some ⟨kb, 0, none⟩) (q := 3) (.slice na ns.length nc) rfl (fun w hw => hw.2.2.2.2.2.2.2.1) rfl ?_
   refine wX ?_
   refine Nd.mk ⟨Nat.le_refl 1, rfl, rfl⟩ ?_
   (conv => whnf)
   refine AppN.grow 5 (strC ns) [.string (bs t60)] rfl rfl ⟨Nat.le_refl 1, ⟨by show (ns.length + 1) * 16 ≤ _; omega, by omega⟩, by decide⟩ fun nb' nc' g1 g2 => ?_
   refine wX ?_
   refine EffW.appTo (i := 8) (q := 3) (ys := [_]) (cellC ⟨⟨8, 0, t0, ns ++ [t60], l⟩, some ⟨nb', 0, none⟩, nc', ia, ic⟩) 5 rfl rfl rfl rfl rfl rfl rfl (Nat.le_of_ble_eq_true rfl) (by simp [cellC]) rfl ?_
   refine wXD ?_
   refine DrawN.planC (fun w => SlAt (some ⟨kb, 0, none⟩) 5 (cellC ⟨⟨8, 0, t0, ns ++ [t60], l⟩, some ⟨nb', 0, none⟩, nc', ia, ic⟩) w) [0, 2] [(1, 1), (3, 0), (4, 0), (5, 0), (6, 2)] [(7, 0)] (by decide +kernel) (fun w hw => hw.2.2.2.2.2.2.2.1) ?_
   refine wXO ?_
   refine ReadC.one (a := some ⟨kb, 0, none⟩) (q := 4) (.slice ia l.length ic) rfl rfl rfl (fun w hw => hw) rfl ?_
   refine wXO ?_
   refine callG (hc rb s8 p6 ok7 b7 d5) [0, 1, 2, 3, 4] rfl ⟨rfl, rfl, rfl, rfl, rfl, trivial⟩ rfl fun p7 hp7 => ?_
   have hle := htk.le s8
   have hlt := htk.lt s8
   have hdd := cell_dead_e (n := n) (st := s8)
   generalize cellM n s8 = r at h1 hp7 hle hlt hdd ⊢
   obtain ⟨z, s7⟩ := r
   simp only at h1 hp7 hle hlt hdd
   refine wXO ?_
   refine Nd.mk ⟨Nat.le_refl 1, rfl, rfl⟩ ?_
   (conv => whnf)
   refine AppN.grow 6 (iC l) [.int .i64 z] rfl rfl ⟨Nat.le_refl 1, ⟨by show (l.length + 1) * 8 ≤ _; omega, by omega⟩, by decide⟩ fun ib' ic' g3 g4 => ?_
   refine wXO ?_
   have e1 : iC l ++ [.int .i64 z] = iC (l ++ [z]) := by simp [iC]
   have e2 : l.length + 1 = (l ++ [z]).length := by simp
   have e3 : strC ns ++ [.string (bs t60)] = strC (ns ++ [t60]) := by simp [strC]
   have e4 : ns.length + 1 = (ns ++ [t60]).length := by simp
   refine EffW.appTo (i := 8) (q := 4) (ys := [_]) (cellC ⟨⟨8, 0, t0, ns ++ [t60], l ++ [z]⟩, some ⟨nb', 0, none⟩, nc', some ⟨ib', 0, none⟩, ic'⟩) 5 rfl rfl rfl rfl rfl rfl rfl (Nat.le_of_ble_eq_true rfl) (by simp [cellC]) rfl ?_
   refine wXO ?_
   refine wXR ?_
   rw [e1, e2, e3, e4]
   refine ⟨(i + 1, ns ++ [t60], l ++ [z], s7, ⟨p7, some ⟨nb', 0, none⟩, nc', some ⟨ib', 0, none⟩, ic'⟩), ⟨by rw [← h1, show m - (i + 1) = k by omega], by show i + 1 ≤ m; omega, hp7, b7.le hle, ?_, ?_, by simp; omega, (fun h => by cases h), (fun h => by cases h), by rw [← e4]; exact g1, by rw [← e2]; exact g3, ?_⟩, ?_, ?_, ?_⟩
   ·rcases d5 with h | h
    ·exact .inl (Nat.lt_of_le_of_lt hle.s h)
    ·exact .inr (hdd h)
   ·rw [List.length_append, List.length_singleton]
    have hs := hle.s
    have hs5 := l5.s
    unfold liv at h6 ⊢
    rw [if_pos he5] at h6
    split
    ·rename_i h9
     have := hlt h9
     omega
    ·omega
   ·intro y hy
    rcases List.mem_append.1 hy with h | h
    ·exact h12 y h
    ·rw [List.mem_singleton.1 h]; exact tl5
   ·show (if s7.e = 0 then s7.s.length + 1 else 0) < if st5.e = 0 then st5.s.length + 1 else 0
    rw [if_pos he5]
    have hs5 := l5.s
    split
    ·rename_i h9
     have := hlt h9
     omega
    ·omega
   ·exact wKK
   ·exact ⟨wkE_refl _, wkE_refl _, wkE_refl _, wkE_refl _, wkE_refl _, wkE_refl _, wkE_refl _, wkE_refl _, wkE_refl _, wHH⟩
  ·rw [show (st5.e == 0) = false by simpa using he5]
   rw [if_neg he5] at h1
   subst h1
   subst hR
   refine wXR ?_
   refine SeqN.plain ?_
   refine wXR ?_
   refine LdN.agg (a := some ⟨kb, 0, none⟩) (q := 0) (cellC ⟨⟨8, 0, t0, ns, l⟩, na, nc, ia, ic⟩) rfl (fun w hw => hw.2.2.2.2.2.2.2.1) rfl (fun j _ => by rw [Nat.zero_add]) ?_
   refine wXR ?_
   exact ⟨⟨p5, na, nc, ia, ic⟩, ⟨h3, ⟨h8, h9, by show ns.length ≤ _; omega, by show l.length ≤ _; omega, fun s hs => Nat.le_trans (h12 s hs) (by omega), by show t0.length ≤ _; omega, h10, h11⟩⟩, rfl, wkE_refl _, wkE_refl _, wkE_refl _, wkE_refl _, wkE_refl _, wkE_refl _, wkE_refl _, wkH_nil _⟩
 ·rw [show decide ((i : Int) < (m : Int)) = false by simpa using hi]
  rw [show m - i = 0 by omega] at h1
  have h1 : ((ns, l), st5) = R2 := h1
  subst h1
  subst hR
  refine wXR ?_
  refine SeqN.plain ?_
  refine wXR ?_
  refine LdN.agg (a := some ⟨kb, 0, none⟩) (q := 0) (cellC ⟨⟨8, 0, t0, ns, l⟩, na, nc, ia, ic⟩) rfl (fun w hw => hw.2.2.2.2.2.2.2.1) rfl (fun j _ => by rw [Nat.zero_add]) ?_
  refine wXR ?_
  exact ⟨⟨p5, na, nc, ia, ic⟩, ⟨h3, ⟨h8, h9, by show ns.length ≤ _; omega, by show l.length ≤ _; omega, fun s hs => Nat.le_trans (h12 s hs) (by omega), by show t0.length ≤ _; omega, h10, h11⟩⟩, rfl, wkE_refl _, wkE_refl _, wkE_refl _, wkE_refl _, wkE_refl _, wkE_refl _, wkE_refl _, wkH_nil _⟩
def obP (t : List UInt8) (ns : List (List UInt8)) (l : List Int) (na : Option Addr) (nc : Nat) (ia : Option Addr) (ic : Nat) : CellP := ⟨⟨8, 0, t, ns, l⟩, na, nc, ia, ic⟩
structure ObD where
 t : List UInt8
 ns : List (List UInt8)
 l : List Int
 st : PS
 p : RdP
 nm : List CellP
 na : Option Addr
 nc : Nat
 ia : Option Addr
 ic : Nat
def ObD.c (i : ObD) : CellP := obP i.t i.ns i.l i.na i.nc i.ia i.ic
def RestA (f : St → Except Int (Int × St)) (k : Nat) (R : Except Int (Unit × St)) (m : Nat) (st : PS) : Prop := (st.e = 0 → attrsD f k m (toS st) = R) ∧ (st.e ≠ 0 → R = .error st.e)
theorem RestA.tel {f : St → Except Int (Int × St)} {k : Nat} {R : Except Int (Unit × St)} {m : Nat} {st : PS} (h : RestA f k R m st) (hm : st.e = 0 → m = 0) : Tel R () st := by
 by_cases h0 : st.e = 0
 ·have h1 := h.1 h0
  rw [hm h0] at h1
  rw [← h1]
  exact Tel.ok h0
 ·rw [h.2 h0]
  exact ⟨rfl, h0⟩
def RestN (f : St → Except Int (Int × St)) (k : Nat) (R : Except Int (Unit × St)) (st : PS) : Prop := (st.e = 0 → (Marshal.bnd (numS maxN (toS st)) fun n s => attrsD f k n s) = R) ∧ (st.e ≠ 0 → R = .error st.e)
theorem RestN.num {f : St → Except Int (Int × St)} {k : Nat} {R : Except Int (Unit × St)} {st : PS} (h : RestN f k R st) : RestA f k R (numM maxN st).1 (numM maxN st).2 := by
 by_cases h0 : st.e = 0
 ·have htel := (Ref.num maxN).tel h0
  have h1 := h.1 h0
  refine ⟨fun h2 => ?_, fun h2 => ?_⟩
  ·rw [htel.live h2] at h1
   exact h1
  ·rw [htel.dead h2] at h1
   exact h1.symm
 ·rw [num_dead h0]
  exact ⟨fun h2 => absurd h2 h0, h.2⟩
theorem ok_leaf {c : Cell} (hn : c.names = []) (hi : c.items = []) (ht : c.text.length ≤ 30000) : CellOk ⟨c, none, 0, none, 0⟩ :=
 ⟨fun _ => hn, fun _ => hi, by rw [hn]; exact Nat.zero_le _, by rw [hi]; exact Nat.zero_le _, (fun s hs => by rw [hn] at hs; cases hs), by show c.text.length ≤ _; omega, by rw [hn]; exact Nat.le_refl _, by rw [hi]; exact Nat.le_refl _⟩
theorem inner_rd (n : Nat) (hc : CellC n) (rb : Nat) (st : PS) (p : RdP) (ok : RdOk st p) (bd : Bd st) (hn : st.s.length < n ∨ st.e ≠ 0) (x : UInt8) (hx : x ∈ begins) : SpecH Tryz.prog 89 [.c (.v (.pointer (some ⟨rb, 0, none⟩))), .c (.v (.int .u8 (x.toNat : Int)))] (rdE rb st p) (RetG (ι := ObP) (fun i => RdOk (innerM (cellM n) x st).2 i.p ∧ CellOk ⟨(innerM (cellM n) x st).1, i.na, i.nc, i.ia, i.ic⟩) (fun i => cellV ⟨(innerM (cellM n) x st).1, i.na, i.nc, i.ia, i.ic⟩) fun i => rdE rb (innerM (cellM n) x st).2 i.p ++ [ownS (innerM (cellM n) x st).1.names i.na i.nc, ownI (innerM (cellM n) x st).1.items i.ia i.ic]) := by
 have bp := bd.pot
 have htk := cell_takes n
 simp only [begins, List.mem_cons, List.not_mem_nil, or_false] at hx
 rcases hx with rfl | rfl | rfl | rfl | rfl | rfl | rfl | rfl | rfl | rfl
 ·refine SpecH.pad [.app 9 1 [] none 0 0, .app 3 1 [] none 0 0] rfl ?_
  refine ownC hm Tryz.func89 (by kernel_rfl) rfl rfl (fun _ _ => okHB_eq rfl) (fun _ _ => Nat.le_of_ble_eq_true rfl) ?_
  refine wX ?_
  exact ⟨⟨p, none, 0, none, 0⟩, ⟨ok, ok_leaf rfl rfl (Nat.zero_le _)⟩, rfl, wkE_refl _, wkE_refl _, wkE_refl _, wkE_refl _, wkE_refl _, wkE_refl _, wkE_refl _, wkH_nil _⟩
 ·refine SpecH.pad [.app 9 1 [] none 0 0, .app 3 1 [] none 0 0] rfl ?_
  refine ownC hm Tryz.func89 (by kernel_rfl) rfl rfl (fun _ _ => okHB_eq rfl) (fun _ _ => Nat.le_of_ble_eq_true rfl) ?_
  refine wX ?_
  exact ⟨⟨p, none, 0, none, 0⟩, ⟨ok, ok_leaf rfl rfl (Nat.zero_le _)⟩, rfl, wkE_refl _, wkE_refl _, wkE_refl _, wkE_refl _, wkE_refl _, wkE_refl _, wkE_refl _, wkH_nil _⟩
 ·refine SpecH.pad [.app 9 1 [] none 0 0, .app 3 1 [] none 0 0] rfl ?_
  refine ownC hm Tryz.func89 (by kernel_rfl) rfl rfl (fun _ _ => okHB_eq rfl) (fun _ _ => Nat.le_of_ble_eq_true rfl) ?_
  refine wX ?_
  exact ⟨⟨p, none, 0, none, 0⟩, ⟨ok, ok_leaf rfl rfl (Nat.zero_le _)⟩, rfl, wkE_refl _, wkE_refl _, wkE_refl _, wkE_refl _, wkE_refl _, wkE_refl _, wkE_refl _, wkH_nil _⟩
 ·have hk := num_keep (2 * maxN) st
  have hmo := num_most (2 * maxN) st
  have hnum := number_m rb st p (2 * maxN) (by decide)
  have e : innerM (cellM n) 105 st = (⟨3, unsgn (numM (2 * maxN) st).1, [], [], []⟩, (numM (2 * maxN) st).2) := rfl
  rw [e]
  clear e
  generalize numM (2 * maxN) st = q at hk hmo hnum ⊢
  obtain ⟨m, s2⟩ := q
  simp only at hk hmo hnum
  have hmo : m ≤ 2000000000000000 := hmo
  refine SpecH.pad [.app 9 1 [] none 0 0, .app 3 1 [] none 0 0] rfl ?_
  refine ownC hm Tryz.func89 (by kernel_rfl) rfl rfl (fun _ _ => okHB_eq rfl) (fun _ _ => Nat.le_of_ble_eq_true rfl) ?_
  refine wX ?_
  refine callG (hnum) [0, 1, 2, 3, 4] rfl ⟨rfl, rfl, rfl, rfl, rfl, trivial⟩ rfl fun _ _ => ?_
  refine wX ?_
  have em : (m : Int).tmod 2 = ((m % 2 : Nat) : Int) := (Int.ofNat_tmod m 2).symm
  have ed : (m : Int).tdiv 2 = ((m / 2 : Nat) : Int) := (Int.ofNat_tdiv m 2).symm
  refine brd_eq (fun h => ?_) (fun h => ?_)
  ·have hu : unsgn m = -(((m + 1) / 2 : Nat) : Int) := by unfold unsgn; rw [if_pos (by omega)]
   refine wX ?_
   rw [show IntKind.i64.wrap ((IntKind.i64.wrap (0 - IntKind.i64.wrap ((m : Int) + 1))).tdiv 2) = unsgn m by
    rw [wrap_i64 (x := (m : Int) + 1) (by omega), wrap_i64 (x := 0 - ((m : Int) + 1)) (by omega), show (0 : Int) - ((m : Int) + 1) = -(((m + 1 : Nat)) : Int) by omega, Int.neg_tdiv, show ((m + 1 : Nat) : Int).tdiv 2 = (((m + 1) / 2 : Nat) : Int) from (Int.ofNat_tdiv (m + 1) 2).symm, wrap_i64 (by omega), hu]]
   exact ⟨⟨p, none, 0, none, 0⟩, ⟨ok.same hk, ok_leaf rfl rfl (Nat.zero_le _)⟩, rfl, wkE_refl _, wkE_refl _, wkE_refl _, wkE_refl _, wkE_refl _, wkE_refl _, wkE_refl _, wkH_nil _⟩
  ·have hu : unsgn m = ((m / 2 : Nat) : Int) := by unfold unsgn; rw [if_neg (by omega)]
   refine wX ?_
   rw [show IntKind.i64.wrap ((m : Int).tdiv 2) = unsgn m by rw [ed, wrap_i64 (by omega), hu]]
   exact ⟨⟨p, none, 0, none, 0⟩, ⟨ok.same hk, ok_leaf rfl rfl (Nat.zero_le _)⟩, rfl, wkE_refl _, wkE_refl _, wkE_refl _, wkE_refl _, wkE_refl _, wkE_refl _, wkE_refl _, wkH_nil _⟩
 ·have hk := text_keep maxN st
  have hl := text_len maxN st
  have ht := text_rd rb st p maxN
  have e : innerM (cellM n) 34 st = (⟨4, 0, (textM maxN st).1, [], []⟩, (textM maxN st).2) := rfl
  rw [e]
  clear e
  generalize textM maxN st = q at hk hl ht ⊢
  obtain ⟨t, s2⟩ := q
  simp only at hk hl ht
  refine SpecH.pad [.app 9 1 [] none 0 0, .app 3 1 [] none 0 0] rfl ?_
  refine ownC hm Tryz.func89 (by kernel_rfl) rfl rfl (fun _ _ => okHB_eq rfl) (fun _ _ => Nat.le_of_ble_eq_true rfl) ?_
  refine wX ?_
  refine callG (ht) [0, 1, 2, 3, 4] rfl ⟨rfl, rfl, rfl, rfl, rfl, trivial⟩ rfl fun _ _ => ?_
  refine wX ?_
  exact ⟨⟨p, none, 0, none, 0⟩, ⟨ok.same hk, ok_leaf rfl rfl (by show t.length ≤ _; omega)⟩, rfl, wkE_refl _, wkE_refl _, wkE_refl _, wkE_refl _, wkE_refl _, wkE_refl _, wkE_refl _, wkH_nil _⟩
 ·have hs := symbol_rd rb 58 st p ok (by omega)
  have ho := fun i hi => ok.sym (by omega) 58 (i := i) hi
  have hl := symM_len 58 st (by omega) ok.sw
  have e : innerM (cellM n) 58 st = (⟨5, 0, (symM 58 st).1, [], []⟩, (symM 58 st).2) := rfl
  rw [e]
  clear e
  generalize symM 58 st = q at hs ho hl ⊢
  obtain ⟨t, s2⟩ := q
  simp only at hs ho hl
  refine SpecH.pad [.app 9 1 [] none 0 0, .app 3 1 [] none 0 0] rfl ?_
  refine ownC hm Tryz.func89 (by kernel_rfl) rfl rfl (fun _ _ => okHB_eq rfl) (fun _ _ => Nat.le_of_ble_eq_true rfl) ?_
  refine wX ?_
  refine callG hs [0, 1, 2, 3, 4] rfl ⟨rfl, rfl, rfl, rfl, rfl, trivial⟩ rfl fun i hi => ?_
  refine wX ?_
  exact ⟨⟨{ p with sa := i.1, sc := i.2 }, none, 0, none, 0⟩, ⟨ho i hi, ok_leaf rfl rfl hl⟩, rfl, wkE_refl _, wkE_refl _, wkE_refl _, wkE_refl _, wkE_refl _, wkE_refl _, wkE_refl _, wkH_nil _⟩
 ·have hs := symbol_rd rb 59 st p ok (by omega)
  have ho := fun i hi => ok.sym (by omega) 59 (i := i) hi
  have hl := symM_len 59 st (by omega) ok.sw
  have e : innerM (cellM n) 59 st = (⟨5, 0, (symM 59 st).1, [], []⟩, (symM 59 st).2) := rfl
  rw [e]
  clear e
  generalize symM 59 st = q at hs ho hl ⊢
  obtain ⟨t, s2⟩ := q
  simp only at hs ho hl
  refine SpecH.pad [.app 9 1 [] none 0 0, .app 3 1 [] none 0 0] rfl ?_
  refine ownC hm Tryz.func89 (by kernel_rfl) rfl rfl (fun _ _ => okHB_eq rfl) (fun _ _ => Nat.le_of_ble_eq_true rfl) ?_
  refine wX ?_
  refine callG hs [0, 1, 2, 3, 4] rfl ⟨rfl, rfl, rfl, rfl, rfl, trivial⟩ rfl fun i hi => ?_
  refine wX ?_
  exact ⟨⟨{ p with sa := i.1, sc := i.2 }, none, 0, none, 0⟩, ⟨ho i hi, ok_leaf rfl rfl hl⟩, rfl, wkE_refl _, wkE_refl _, wkE_refl _, wkE_refl _, wkE_refl _, wkE_refl _, wkE_refl _, wkH_nil _⟩
 ·have hnum := number_m rb st p maxN (by decide)
  have hk := num_keep maxN st
  have hmo := num_most maxN st
  have hle := num_le maxN st
  have hnn := fuel_keep hn (num_le maxN st) (fun h => by rw [num_dead h])
  have e : innerM (cellM n) 91 st = (⟨6, 0, [], [], (itemsM (cellM n) ((numM maxN st).1) [] (numM maxN st).2).1⟩, (itemsM (cellM n) ((numM maxN st).1) [] (numM maxN st).2).2) := rfl
  rw [e]
  clear e
  generalize numM maxN st = q at hnum hk hmo hle hnn ⊢
  obtain ⟨m, s2⟩ := q
  simp only at hnum hk hmo hle hnn
  have hmo : m ≤ 1000000000000000 := hmo
  have b2 := bd.le hle
  have hit := items_rd n hc rb s2 p (ok.same hk) b2 hnn (m) (by omega)
  have hil := (items_le htk (m) [] s2).2
  simp only
  generalize itemsM (cellM n) (m) [] s2 = r at hit hil ⊢
  obtain ⟨l, s3⟩ := r
  simp only at hit hil
  have hll : l.length ≤ 30001 := by
   have := b2.pot
   have h9 : liv s2 ≤ 1 := by unfold liv; split <;> omega
   have h8 : ([] : List Int).length = 0 := rfl
   omega
  refine SpecH.pad [.app 9 1 [] none 0 0, .app 3 1 [] none 0 0] rfl ?_
  refine ownC hm Tryz.func89 (by kernel_rfl) rfl rfl (fun _ _ => okHB_eq rfl) (fun _ _ => Nat.le_of_ble_eq_true rfl) ?_
  refine wX ?_
  refine callG (hnum) [0, 1, 2, 3, 4] rfl ⟨rfl, rfl, rfl, rfl, rfl, trivial⟩ rfl fun _ _ => ?_
  refine wX ?_
  refine callG hit [0, 1, 2, 3, 4, 6] rfl ⟨rfl, rfl, rfl, rfl, rfl, rfl, trivial⟩ rfl fun i hi => ?_
  refine wX ?_
  exact ⟨⟨i.1, none, 0, i.2.1, i.2.2⟩, ⟨hi.1, ⟨fun _ => rfl, hi.2.1, Nat.zero_le _, by show l.length ≤ _; omega, (fun s hs => by cases hs), Nat.zero_le _, Nat.le_refl _, hi.2.2⟩⟩, rfl, wkE_refl _, wkE_refl _, wkE_refl _, wkE_refl _, wkE_refl _, wkE_refl _, wkE_refl _, wkH_nil _⟩
 ·have hnum := number_m rb st p maxN (by decide)
  have hk := num_keep maxN st
  have hmo := num_most maxN st
  have hle := num_le maxN st
  have hnn := fuel_keep hn (num_le maxN st) (fun h => by rw [num_dead h])
  have e : innerM (cellM n) 123 st = (⟨7, 0, [], [], (itemsM (cellM n) (2 * (numM maxN st).1) [] (numM maxN st).2).1⟩, (itemsM (cellM n) (2 * (numM maxN st).1) [] (numM maxN st).2).2) := rfl
  rw [e]
  clear e
  generalize numM maxN st = q at hnum hk hmo hle hnn ⊢
  obtain ⟨m, s2⟩ := q
  simp only at hnum hk hmo hle hnn
  have hmo : m ≤ 1000000000000000 := hmo
  have b2 := bd.le hle
  have hit := items_rd n hc rb s2 p (ok.same hk) b2 hnn (2 * m) (by omega)
  have hil := (items_le htk (2 * m) [] s2).2
  simp only
  generalize itemsM (cellM n) (2 * m) [] s2 = r at hit hil ⊢
  obtain ⟨l, s3⟩ := r
  simp only at hit hil
  have hll : l.length ≤ 30001 := by
   have := b2.pot
   have h9 : liv s2 ≤ 1 := by unfold liv; split <;> omega
   have h8 : ([] : List Int).length = 0 := rfl
   omega
  refine SpecH.pad [.app 9 1 [] none 0 0, .app 3 1 [] none 0 0] rfl ?_
  refine ownC hm Tryz.func89 (by kernel_rfl) rfl rfl (fun _ _ => okHB_eq rfl) (fun _ _ => Nat.le_of_ble_eq_true rfl) ?_
  refine wX ?_
  refine callG (hnum) [0, 1, 2, 3, 4] rfl ⟨rfl, rfl, rfl, rfl, rfl, trivial⟩ rfl fun _ _ => ?_
  refine wX ?_
  first | rw [show IntKind.i64.wrap (2 * (m : Int)) = ((2 * m : Nat) : Int) by rw [wrap_i64 (by omega)]; omega] | rw [show 2 * (m : Int) = ((2 * m : Nat) : Int) by omega]
  refine callG hit [0, 1, 2, 3, 4, 6] rfl ⟨rfl, rfl, rfl, rfl, rfl, rfl, trivial⟩ rfl fun i hi => ?_
  refine wX ?_
  exact ⟨⟨i.1, none, 0, i.2.1, i.2.2⟩, ⟨hi.1, ⟨fun _ => rfl, hi.2.1, Nat.zero_le _, by show l.length ≤ _; omega, (fun s hs => by cases hs), Nat.zero_le _, Nat.le_refl _, hi.2.2⟩⟩, rfl, wkE_refl _, wkE_refl _, wkE_refl _, wkE_refl _, wkE_refl _, wkE_refl _, wkE_refl _, wkH_nil _⟩
 ·have hob := object_rd n hc rb st p ok bd hn
  have e : innerM (cellM n) 111 st = objM (cellM n) st := rfl
  rw [e]
  clear e
  generalize objM (cellM n) st = r at hob ⊢
  obtain ⟨c, s3⟩ := r
  simp only at hob
  refine SpecH.pad [.app 9 1 [] none 0 0, .app 3 1 [] none 0 0] rfl ?_
  refine ownC hm Tryz.func89 (by kernel_rfl) rfl rfl (fun _ _ => okHB_eq rfl) (fun _ _ => Nat.le_of_ble_eq_true rfl) ?_
  refine wX ?_
  refine callG hob [0, 1, 2, 3, 4, 5, 6] rfl ⟨rfl, rfl, rfl, rfl, rfl, rfl, rfl, trivial⟩ rfl fun i hi => ?_
  refine wX ?_
  exact ⟨i, hi, rfl, wkE_refl _, wkE_refl _, wkE_refl _, wkE_refl _, wkE_refl _, wkE_refl _, wkE_refl _, wkH_nil _⟩
end Go.Proofs.YtgogonnnojcioaaGreatDoor
namespace Go.AX
def execG (P : Program) (c : Code) : List AV → List Ent → (Ex → List AV → List Ent → Prop) → Prop :=
 Code.rec (motive := fun _ => List AV → List Ent → (Ex → List AV → List Ent → Prop) → Prop)
  (fun s H K => K .normal s H)
  (fun _ ops draw s H K => regionK P ops draw s H K)
  (fun _ _ ia ib s H K => SeqN ia ib s H K)
  (fun c _ _ ia ib s H K => condK c s (fun s => ia s H K) (fun s => ib s H K))
  (fun id _ ib s H K => ib s H (blockK id K))
  (fun _ ib s H K => LoopN ib s H K)
  (fun _ _ _ _ _ _ _ _ _ => False)
  (fun id s H K => K (.exit id) s H)
  (fun _ ib s H K => ib s H K)
  (fun _ s H K => K .normal s H)
  (fun _ _ _ _ => False)
  (fun s H K => K .ret s H)
  (fun _ _ _ _ => False)
  c
theorem execG_sound {P : Program} (hm : P.follows .mixedOrders = true) : ∀ (c : Code) (s : List AV) (H : List Ent) (K : Ex → List AV → List Ent → Prop), execG P c s H K →
  ∀ (ρ : List Loc) (S : Nat → Prop) (w : World) (a : Act), Sat ρ S H w → RelS ρ s a.tmps.toList → c.wp P (Post ρ S H w a.defers K) a w := by
 intro c
 induction c with
 | skip => intro s H K h ρ S w a hs hr; exact wp_skip ⟨ρ, S, s, H, .normal, hs, Ev.refl _ _ _ _, hr, rfl, trivial, h⟩
 | label l => intro s H K h ρ S w a hs hr; exact wp_label ⟨ρ, S, s, H, .normal, hs, Ev.refl _ _ _ _, hr, rfl, trivial, h⟩
 | exit id => intro s H K h ρ S w a hs hr; exact wp_exit ⟨ρ, S, s, H, .exit id, hs, Ev.refl _ _ _ _, hr, rfl, rfl, h⟩
 | ret => intro s H K h ρ S w a hs hr; exact wp_ret ⟨ρ, S, s, H, .ret, hs, Ev.refl _ _ _ _, hr, rfl, trivial, h⟩
 | goto l => intro s H K h; exact h.elim
 | refuse y => intro s H K h; exact h.elim
 | scope b ih =>
  intro s H K h0 ρ S w a hs hr
  have h : execG P b s H K := h0
  refine wp_scope_straight (wp_mono (ih s H K h ρ S w a hs hr) fun e a' w' hp => ?_)
  cases e with
  | goto l =>
   obtain ⟨ρ1, S1, s1, H1, ex, hs1, hev, hr1, hd, hex, hK⟩ := hp
   cases ex <;> exact hex.elim
  | _ => exact hp
 | rangeFunc f ps _ b _ _ => intro s H K h; exact h.elim
 | region id ops draw =>
  intro s H K h0 ρ S w a hs hr
  have h : regionK P ops draw s H K := h0
  clear h0
  unfold regionK at h
  split at h
  ·exact wp_region_list (execOps_sound _ _ _ h ρ S w a hs hr)
  ·have h0 : Cls ρ S H w { w with drawn := w.drawn + 1 } := ⟨S, hs.heap rfl, Ev.drew _ _ _ _⟩
   rcases h with ⟨hB, h⟩ | ⟨pre, hd, tl, hB, h⟩ | ⟨pre, hd, tl, hB, h⟩ | ⟨C, pre, hd, tl, hB, hC, h⟩ | ⟨pre, t, n, hB, h⟩ | h
   ·refine wp_region_quiet (C := Cls ρ S H w) hm hB h0 ?_
    have hq := execQ_sound ⟨_, h0⟩ _ _ h a hr
    refine exec_sound.wpQuiet_mono (fun a' ⟨s', hK, hr', hd⟩ w' ⟨S', hs', hev⟩ => ?_) _ _ hq
    exact ⟨ρ, S', s', H, .normal, hs', hev, hr', hd, trivial, hK⟩
   ·exact plan_sound hm hB h hs hr
   ·exact planQ_sound hm hB h hs hr
   ·exact planC_sound hm hB hC h hs hr
   ·exact tree_sound hm hB h hs hr
   ·exact h _ ρ S w a hs hr
 | seq x y ihx ihy =>
  intro s H K h0 ρ S w a hs hr
  have h : SeqN (execG P x) (execG P y) s H K := h0
  have key : ∀ K2 : Ex → List AV → List Ent → Prop, execG P x s H K2 → (∀ (e : Ex) (s1 : List AV) (H1 : List Ent) (ρ1 : List Loc) (S1 : Nat → Prop) (w1 : World) (a1 : Act), K2 e s1 H1 → Sat ρ1 S1 H1 w1 → Ev ρ S H w ρ1 S1 H1 w1 → relX e ρ1 s1 a1.tmps.toList → ∃ s2 H2 ρ2 S2, Sat ρ2 S2 H2 w1 ∧ Ev ρ S H w ρ2 S2 H2 w1 ∧ relX e ρ2 s2 a1.tmps.toList ∧ seqK (execG P y) K e s2 H2) → (Code.seq x y).wp P (Post ρ S H w a.defers K) a w := by
   intro K2 h2 hk
   refine wp_seq (wp_mono (ihx s H K2 h2 ρ S w a hs hr) fun e a' w' hp => ?_)
   obtain ⟨ρ0, S0, s0, H0, ex, hs0, hev0, hr0, hd, hex, hK0⟩ := hp
   obtain ⟨s1, H1, ρ1, S1, hs1, hev, hr1, hK⟩ := hk ex s0 H0 ρ0 S0 w' a' hK0 hs0 hev0 hr0
   cases ex with
   | normal =>
    cases e <;> first | exact hex.elim | skip
    refine wp_mono (ihy s1 H1 K hK ρ1 S1 w' a' hs1 hr1) fun e2 a2 w2 hp2 => ?_
    rw [hd] at hp2
    exact hp2.from hev
   | exit n => cases e <;> first | exact hex.elim | exact ⟨ρ1, S1, s1, H1, .exit n, hs1, hev, hr1, hd, hex, hK⟩
   | ret => cases e <;> first | exact hex.elim | exact ⟨ρ1, S1, s1, H1, .ret, hs1, hev, hr1, hd, hex, hK⟩
   | pan n => cases e <;> first | exact hex.elim | exact ⟨ρ1, S1, s1, H1, .pan n, hs1, hev, hr1, hd, hex, hK⟩
  rcases h with h | ⟨ι, inv, sl, hp, hlen, hoks, hokh, h, hnext⟩
  ·exact key _ h fun e s1 H1 ρ1 S1 w1 a1 hK hs1 hev hr1 => ⟨s1, H1, ρ1, S1, hs1, hev, hr1, hK⟩
  ·simp only [forceS_eq, forceH_eq] at hnext
   refine key _ h fun e s1 H1 ρ1 S1 w1 a1 hK hs1 hev hr1 => ?_
   cases e with
   | normal =>
    obtain ⟨j, hij, hws, hwh⟩ := hK
    have hw := hs1.weak hwh (hokh j hij)
    refine ⟨sl j, hp j, ρ1.take (hp j).length, S1, hw.1, ⟨?_, hev.os, hev.tape, hev.output, hev.size, hev.keep, hev.imm, fun b hb => hev.own b (hw.2 b hb)⟩, wkS_rel hws (hoks j hij) hr1, hnext j hij⟩
    obtain ⟨t, ht⟩ := hev.pre
    refine ⟨t.take ((hp j).length - ρ.length), ?_⟩
    rw [ht, List.take_append, List.take_of_length_le (by rw [hs.len]; exact hlen j hij)]
   | exit n => exact ⟨s1, H1, ρ1, S1, hs1, hev, hr1, hK⟩
   | ret => exact ⟨s1, H1, ρ1, S1, hs1, hev, hr1, hK⟩
   | pan n => exact ⟨s1, H1, ρ1, S1, hs1, hev, hr1, hK⟩
 | cond c x y ihx ihy =>
  intro s H K h0 ρ S w a hs hr
  have h : condK c s (fun s => execG P x s H K) (fun s => execG P y s H K) := h0
  obtain ⟨b, hb, hc⟩ := condK_spec h hr
  refine wp_cond hb ?_
  rcases hc with ⟨rfl, s', hK, hr'⟩ | ⟨rfl, s', hK, hr'⟩
  ·exact ihx s' H K hK ρ S w a hs hr'
  ·exact ihy s' H K hK ρ S w a hs hr'
 | block id b ih =>
  intro s H K h ρ S w a hs hr
  refine wp_block (wp_mono (ih s H (blockK id K) h ρ S w a hs hr) fun e a' w' hp => ?_)
  obtain ⟨ρ1, S1, s1, H1, ex, hs1, hev, hr1, hd, hex, hK⟩ := hp
  cases ex with
  | normal => cases e <;> first | exact hex.elim | exact ⟨ρ1, S1, s1, H1, .normal, hs1, hev, hr1, hd, trivial, hK⟩
  | ret => cases e <;> first | exact hex.elim | exact ⟨ρ1, S1, s1, H1, .ret, hs1, hev, hr1, hd, trivial, hK⟩
  | pan n => cases e <;> first | exact hex.elim | exact ⟨ρ1, S1, s1, H1, .pan n, hs1, hev, hr1, hd, hex, hK⟩
  | exit n =>
   cases e <;> first | exact hex.elim | skip
   rename_i m
   have hnm : n = m := hex
   subst hnm
   by_cases hid : n = id
   ·subst hid
    simp only [Exit.inBlock, if_true]
    have hK' : K .normal s1 H1 := by simpa [blockK] using hK
    exact ⟨ρ1, S1, s1, H1, .normal, hs1, hev, hr1, hd, trivial, hK'⟩
   ·simp only [Exit.inBlock, if_neg hid]
    have hbq : Nat.beq n id = false := by cases hq : Nat.beq n id with | false => rfl | true => exact absurd (Nat.eq_of_beq_eq_true hq) hid
    have hK' : K (.exit n) s1 H1 := by simpa [blockK, hbq] using hK
    exact ⟨ρ1, S1, s1, H1, .exit n, hs1, hev, hr1, hd, rfl, hK'⟩
 | loop b ih =>
  intro s H K h0 ρ S w a hs hr
  have h : LoopN (execG P b) s H K := h0
  rcases h with ⟨ι, inv, sl, hp, μ, pad, hpad, hlen, hoks, hokh, ⟨i0, hi0, hst, hsh⟩, hround⟩ | ⟨n, hU⟩ | ⟨ι, inv, sl, hp, μ, pad, hpad, hlen, hoks, hokh, ⟨i0, hi0, hst, hsh⟩, hround⟩
  ·obtain ⟨t0, hs0, hev0⟩ := Sat.pad pad hpad hs
   have hr0 := RelS_pre t0 hr
   refine wp_mono (P := P) (c := .loop b) (Q := Post (ρ ++ t0) S (H ++ pad) w a.defers K) ?_ fun e a' w' hp => hp.from hev0
   clear hs hr h0
   have hs := hs0
   have hr := hr0
   clear hs0 hr0
   generalize ρ ++ t0 = ρ at *
   generalize H ++ pad = H at *
   simp only [forceS_eq, forceH_eq] at hround
   refine wp_loop_by (fun n a' w' => ∃ i ρ' S', inv i ∧ μ i = n ∧ Sat ρ' S' (hp i) w' ∧ Ev ρ S H w ρ' S' (hp i) w' ∧ RelS ρ' (sl i) a'.tmps.toList ∧ a'.defers = a.defers) ?_ (μ i0) a w ?_
   ·rintro n a' w' ⟨i, ρ', S', hinv, rfl, hs', hev, hr', hd⟩
    refine wp_mono (ih (sl i) (hp i) _ (hround i hinv) ρ' S' w' a' hs' hr') fun e a2 w2 hq => ?_
    obtain ⟨ρ2, S2, s2, H2, ex, hs2, hev2, hr2, hd2, hex, hK⟩ := hq
    cases ex with
    | normal =>
     cases e <;> first | exact hex.elim | skip
     obtain ⟨j, hij, hj, hws, hwh⟩ := hK
     have hw := hs2.weak hwh (by rw [hlen]; exact hokh j hij)
     refine ⟨μ j, hj, j, ρ2.take (hp j).length, S2, hij, rfl, hw.1, ?_, ?_, hd2.trans hd⟩
     ·have h12 := hev.trans hev2
      refine ⟨?_, h12.os, h12.tape, h12.output, h12.size, h12.keep, h12.imm, fun b hb => h12.own b (hw.2 b hb)⟩
      obtain ⟨t, ht⟩ := h12.pre
      refine ⟨t.take ((hp j).length - ρ.length), ?_⟩
      rw [ht, List.take_append, List.take_of_length_le (by rw [hs.len, hlen]; omega)]
     ·rw [hlen]; exact wkS_rel hws (hoks j) hr2
    | exit n => cases e <;> first | exact hex.elim | exact ⟨ρ2, S2, s2, H2, .exit n, hs2, hev.trans hev2, hr2, hd2.trans hd, hex, hK⟩
    | ret => cases e <;> first | exact hex.elim | exact ⟨ρ2, S2, s2, H2, .ret, hs2, hev.trans hev2, hr2, hd2.trans hd, trivial, hK⟩
    | pan n => cases e <;> first | exact hex.elim | exact ⟨ρ2, S2, s2, H2, .pan n, hs2, hev.trans hev2, hr2, hd2.trans hd, hex, hK⟩
   ·have hw := hs.weak hsh (by rw [hlen]; exact hokh i0 hi0)
    have hρ : ρ.take (hp i0).length = ρ := List.take_of_length_le (by rw [hs.len, hlen]; omega)
    rw [hρ] at hw
    refine ⟨i0, ρ, S, hi0, rfl, hw.1, ⟨⟨[], by simp⟩, rfl, rfl, rfl, Nat.le_refl _, fun _ _ _ => rfl, fun b hb => .inl hb, fun b hb => .inl (hw.2 b hb)⟩, ?_, rfl⟩
    have := wkS_rel hst (hoks i0) hr
    rw [← hlen i0, hρ] at this
    exact this
  ·refine wp_loop_by (fun n a' w' => ∃ s' H' ρ' S', LoopU (execG P b) K n s' H' ∧ Sat ρ' S' H' w' ∧ Ev ρ S H w ρ' S' H' w' ∧ RelS ρ' s' a'.tmps.toList ∧ a'.defers = a.defers) ?_ n a w ⟨s, H, ρ, S, hU, hs, Ev.refl _ _ _ _, hr, rfl⟩
   rintro n a' w' ⟨s', H', ρ', S', hU, hs', hev, hr', hd⟩
   cases n with
   | zero => exact hU.elim
   | succ n =>
    refine wp_mono (ih s' H' _ hU ρ' S' w' a' hs' hr') fun e a2 w2 hq => ?_
    obtain ⟨ρ2, S2, s2, H2, ex, hs2, hev2, hr2, hd2, hex, hK⟩ := hq
    cases ex with
    | normal =>
     cases e <;> first | exact hex.elim | skip
     exact ⟨n, Nat.lt_succ_self n, s2, H2, ρ2, S2, hK, hs2, hev.trans hev2, hr2, hd2.trans hd⟩
    | exit n => cases e <;> first | exact hex.elim | exact ⟨ρ2, S2, s2, H2, .exit n, hs2, hev.trans hev2, hr2, hd2.trans hd, hex, hK⟩
    | ret => cases e <;> first | exact hex.elim | exact ⟨ρ2, S2, s2, H2, .ret, hs2, hev.trans hev2, hr2, hd2.trans hd, trivial, hK⟩
    | pan n => cases e <;> first | exact hex.elim | exact ⟨ρ2, S2, s2, H2, .pan n, hs2, hev.trans hev2, hr2, hd2.trans hd, hex, hK⟩
  ·obtain ⟨t0, hs0, hev0⟩ := Sat.pad pad hpad hs
   have hr0 := RelS_pre t0 hr
   refine wp_mono (P := P) (c := .loop b) (Q := Post (ρ ++ t0) S (H ++ pad) w a.defers K) ?_ fun e a' w' hp => hp.from hev0
   clear hs hr h0
   have hs := hs0
   have hr := hr0
   clear hs0 hr0
   generalize ρ ++ t0 = ρ at *
   generalize H ++ pad = H at *
   simp only [forceS_eq, forceH_eq] at hround
   refine wp_loop_by (fun n a' w' => ∃ i ρ' S', inv i ∧ μ i = n ∧ Sat ρ' S' (hp i) w' ∧ Ev ρ S H w ρ' S' (hp i) w' ∧ RelS ρ' (sl i) a'.tmps.toList ∧ a'.defers = a.defers) ?_ (μ i0) a w ?_
   ·rintro n a' w' ⟨i, ρ', S', hinv, rfl, hs', hev, hr', hd⟩
    refine wp_mono (ih (sl i) (hp i) _ (hround i hinv) ρ' S' w' a' hs' hr') fun e a2 w2 hq => ?_
    obtain ⟨ρ2, S2, s2, H2, ex, hs2, hev2, hr2, hd2, hex, hK⟩ := hq
    cases ex with
    | normal =>
     cases e <;> first | exact hex.elim | skip
     obtain ⟨j, hij, hj, hws, G, hT, hwh⟩ := hK
     obtain ⟨S3, hs3, hev3⟩ := hT.2 _ _ _ hs2
     have hw := hs3.weak hwh (by rw [hlen]; exact hokh j hij)
     refine ⟨μ j, hj, j, ρ2.take (hp j).length, S3, hij, rfl, hw.1, ?_, ?_, hd2.trans hd⟩
     ·have h12 := (hev.trans hev2).trans hev3
      refine ⟨?_, h12.os, h12.tape, h12.output, h12.size, h12.keep, h12.imm, fun b hb => h12.own b (hw.2 b hb)⟩
      obtain ⟨t, ht⟩ := h12.pre
      refine ⟨t.take ((hp j).length - ρ.length), ?_⟩
      rw [ht, List.take_append, List.take_of_length_le (by rw [hs.len, hlen]; omega)]
     ·rw [hlen]; exact wkS_rel hws (hoks j) hr2
    | exit n => cases e <;> first | exact hex.elim | exact ⟨ρ2, S2, s2, H2, .exit n, hs2, hev.trans hev2, hr2, hd2.trans hd, hex, hK⟩
    | ret => cases e <;> first | exact hex.elim | exact ⟨ρ2, S2, s2, H2, .ret, hs2, hev.trans hev2, hr2, hd2.trans hd, trivial, hK⟩
    | pan n => cases e <;> first | exact hex.elim | exact ⟨ρ2, S2, s2, H2, .pan n, hs2, hev.trans hev2, hr2, hd2.trans hd, hex, hK⟩
   ·obtain ⟨G, hT, hsh⟩ := hsh
    obtain ⟨S3, hs3, hev3⟩ := hT.2 _ _ _ hs
    have hw := hs3.weak hsh (by rw [hlen]; exact hokh i0 hi0)
    have hρ : ρ.take (hp i0).length = ρ := List.take_of_length_le (by rw [hs.len, hlen]; omega)
    rw [hρ] at hw
    refine ⟨i0, ρ, S3, hi0, rfl, hw.1, ⟨⟨[], by simp⟩, hev3.os, hev3.tape, hev3.output, hev3.size, hev3.keep, hev3.imm, fun b hb => hev3.own b (hw.2 b hb)⟩, ?_, rfl⟩
    have := wkS_rel hst (hoks i0) hr
    rw [← hlen i0, hρ] at this
    exact this
theorem specG_of_exec {P : Program} (hm : P.follows .mixedOrders = true) {f : FuncId} {fn : Func} {c : Code} (hf : P.funcs[f]? = some fn) (hn : (fn.name == "runtime.NumGoroutine") = false) (hb : fn.body = some c)
  {args : List AV} (hl : Nat.ble args.length fn.ntmps = true) {H : List Ent} {K : Out → List Ent → Prop} (h : initK fn.ntmps args fun s => execG P c s H (endK P fn.results.toList K)) : SpecH P f args H K := by
 refine ⟨⟨fn, hf, hn, by rw [hb]; rfl⟩, fun ρ S w vs hs hr => ?_⟩
 have hvl := RelS_len hr
 obtain ⟨s0, h, hs0⟩ := initK_rel h (Nat.le_of_ble_eq_true hl)
 have hinit : RelS ρ s0 (vs.toArray ++ Array.replicate (fn.ntmps - vs.toArray.size) undef).toList := by
  have := hs0 ρ vs hr
  simpa [hvl] using this
 refine calls_of_wp hf hb (wp_mono (execG_sound hm c _ H _ h ρ S w ⟨_, []⟩ hs hinit) ?_)
 ·intro e a w' hp
  obtain ⟨ρ1, S1, s1, H1, ex, hs1, hev, hr1, hd, hex, hK⟩ := hp
  have fin : RelS ρ1 s1 a.tmps.toList → ∀ {K' : Out → Prop}, resK P fn.results.toList s1 H1 K' → (∀ out, K' out → K out H1) → ∃ v, (results fn a.tmps).run P w' = .ok v w' ∧
    ∃ ρ' S' H' out, Sat ρ' S' H' w' ∧ Ev ρ S H w ρ' S' H' w' ∧ OutOk ρ' out (.returned v) ∧ K out H' := fun hr2 {_} hK1 hK2 => by
   obtain ⟨out, hK3, hres⟩ := resK_sound hK1
   obtain ⟨v, hrun, hv⟩ := hres ρ1 S1 w' a.tmps hs1 hr2
   exact ⟨v, hrun, ρ1, S1, H1, out, hs1, hev, hv, hK2 out hK3⟩
  cases ex with
  | normal =>
   cases e <;> first | exact hex.elim | skip
   obtain ⟨v, hrun, hR⟩ := fin hr1 (K' := fun out => K out H1) hK fun _ h => h
   exact ⟨hd, v, hrun, hR⟩
  | ret =>
   cases e <;> first | exact hex.elim | skip
   obtain ⟨v, hrun, hR⟩ := fin hr1 (K' := fun out => K out H1) hK fun _ h => h
   exact ⟨hd, v, hrun, hR⟩
  | exit n => exact hK.elim
  | pan ch =>
   cases e <;> first | exact hex.elim | skip
   have : ch = _ := hex
   subst this
   exact ⟨hd, ρ1, S1, H1, .pan ch, hs1, hev, rfl, hK⟩
end Go.AX
namespace Go.Proofs.YtgogonnnojcioaaGreatDoor
open Go.AX Go.RowKit Go.Core Go.Marshal
set_option maxRecDepth 20000
theorem pureG {P : Program} (hm : P.follows .mixedOrders = true) {f : FuncId} {fn : Func} {c : Code} (hf : P.funcs[f]? = some fn) (hn : (fn.name == "runtime.NumGoroutine") = false) (hb : fn.body = some c)
  {xs : List Value} (hl : Nat.ble (pvs xs).length fn.ntmps = true) {r : Value} (h : initK fn.ntmps (pvs xs) fun s => execG P c s [] (endK P fn.results.toList fun out _ => out = .val (.c (.v r)))) (H : List Ent) : SpecH P f (pvs xs) H (Ret r H) :=
 ((specG_of_exec hm hf hn hb hl h).mono fun out _ ho => ⟨r, ho, rfl⟩ : SpecH P f (pvs xs) [] fun out _ => ∃ x, out = .val (.c (.v x)) ∧ x = r).frame H |>.mono fun _ _ ⟨_, ho, hx, hH⟩ => ⟨by rw [ho, hx], hH⟩
theorem enc_hi (x : UInt8) (hx : 128 ≤ x.toNat) : ∃ b0 b1 : UInt8, Utf8.encode (x.toNat : Int) = bs [b0, b1] ∧ 128 ≤ b1.toNat := by
 have h : ∀ n : Fin 256, 128 ≤ n.val → (Utf8.encode (n.val : Int)).data.toList = [UInt8.ofNat (192 + n.val / 64), UInt8.ofNat (128 + n.val % 64)] ∧ 128 ≤ (UInt8.ofNat (128 + n.val % 64)).toNat := by decide +kernel
 have h2 := h ⟨x.toNat, x.toNat_lt⟩ hx
 exact ⟨_, _, by rw [← bs_of (Utf8.encode (x.toNat : Int)), h2.1], h2.2⟩
theorem index_lt (l : List UInt8) (c : UInt8) : Lib.indexByte l c < 0 ↔ l.contains c = false := by
 induction l with
 | nil => simp [Lib.indexByte]
 | cons b l ih =>
  have hge := Lib.indexByte_ge l c
  unfold Lib.indexByte
  cases hb : b == c with
  | true =>
   have hbc : b = c := by simpa using hb
   simp [hbc]
  | false =>
   have hbc : (c == b) = false := by
    have : ¬ b = c := by simpa using hb
    simpa using fun h => this h.symm
   rw [List.contains_cons, hbc, Bool.false_or, ← ih]
   simp only [Bool.false_eq_true, if_false]
   split
   ·rename_i h; have : Lib.indexByte l c = -1 := by simpa using h
    omega
   ·rename_i h; have : ¬ Lib.indexByte l c = -1 := by simpa using h
    omega
theorem index_none (s : List UInt8) (c : UInt8) (h : c ∉ s) : Lib.indexByte s c = -1 := by
 induction s with
 | nil => rfl
 | cons b l ih =>
  have hb : (b == c) = false := by
   rw [beq_eq_false_iff_ne]
   intro e
   exact h (by simp [e])
  unfold Lib.indexByte
  rw [hb, ih (fun h2 => h (by simp [h2]))]
  rfl
theorem IndexRune_hi (c0 c1 : UInt8) (s : List UInt8) (hs : ∀ c ∈ c0 :: c1 :: s, c.toNat < 128) (hl : s.length ≤ 1000) (x : UInt8) (hx : 128 ≤ x.toNat) : ∀ H, SpecH Tryz.prog 103 (pvs [.string (bs (c0 :: c1 :: s)), .int .i32 (x.toNat : Int)]) H (Ret (.int .i64 (-1)) H) := by
 refine pureG hm Tryz.func103 (by kernel_rfl) rfl rfl ?_
 have hx2 := x.toNat_lt
 have hvr : ∀ H, SpecH Tryz.prog 127 (pvs [.int .i32 (x.toNat : Int)]) H (Ret (.bool true) H) := fun H =>
  SpecH.rawP (R := fun r => r = .bool true) (callOk Tryz.func127 (by kernel_rfl) rfl) (fun w _ => (Tryz.utf8_ValidRune (x.toNat : Int) w).mono fun e w' ⟨he, hw⟩ => by
   have e1 : Lib.validRune (x.toNat : Int) = true := by unfold Lib.validRune; simp; omega
   rw [e1] at he
   subst hw
   exact ⟨_, he, rfl, Below.refl _ _⟩) fun r hr => by subst hr; exact ⟨rfl, rfl⟩
 refine wXS ?_
 refine brd_dec (fun h => absurd h (by omega)) (fun _ => ?_)
 refine wXS ?_
 refine brd_eq (fun h => absurd h (by omega)) (fun _ => ?_)
 refine wXS ?_
 refine call1 (hvr _) ?_
 refine wXS ?_
 obtain ⟨b0, b1, he, hb1⟩ := enc_hi x hx
 rw [he, show IntKind.i64.wrap (((bs [b0, b1]).size : Nat) - 1) = 1 from rfl]
 refine LoopN.unroll 1 ?_
 refine wXS ?_
 have hsz : (bs (c0 :: c1 :: s)).size = s.length + 2 := bs_size _
 refine brd_dec (fun _ => ?_) (fun h => absurd (by rw [hsz]; show (1 : Int) < _; omega) h)
 refine wXS ?_
 refine Nd.mk ⟨by decide, by show (1 : Int) < 2; decide⟩ ?_
 refine wXS ?_
 rw [show byteAt (bs (c0 :: c1 :: s)) (Int.toNat 1) = (c1.toNat : Int) from rfl, show byteAt (bs [b0, b1]) (Int.toNat 1) = (b1.toNat : Int) from rfl]
 have hc1 : c1.toNat < 128 := hs c1 (by simp)
 refine brd_ne (fun _ => ?_) (fun h => absurd h (by omega))
 refine wXS ?_
 refine ReadW.str_l rfl (by kernel_rfl) rfl rfl ⟨by decide, by rw [hsz, show IntKind.i64.wrap (1 + 1) = 2 from rfl]; omega⟩ ?_
 rw [show (bs (c0 :: c1 :: s)).extract (Int.toNat (IntKind.i64.wrap (1 + 1))) (bs (c0 :: c1 :: s)).size = bs s by rw [bs_size]; exact bs_drop (c0 :: c1 :: s) 2]
 refine wXS ?_
 refine Nd.mk ⟨by decide, by show (1 : Int) < 2; decide⟩ ?_
 refine wXS ?_
 refine callQ (IndexByte_c s b1 _) ?_
 rw [index_none s b1 (fun h => by have := hs b1 (by simp [h]); omega)]
 exact wZS
theorem ContainsRune_lo (s : List UInt8) (x : UInt8) (hx : x.toNat < 128) : ∀ H, SpecH Tryz.prog 88 (pvs [.string (bs s), .int .i32 (x.toNat : Int)]) H (Ret (.bool (decide (0 ≤ Lib.indexByte s x))) H) := fun H =>
 SpecH.rawP (R := fun r => r = .bool (decide (0 ≤ Lib.indexByte s x))) (callOk Tryz.func88 (by kernel_rfl) rfl) (fun w _ => (Tryz.strings_ContainsRune_ascii (bs s) (x.toNat : Int) w (by omega) (by omega)).mono fun e w' ⟨he, hw⟩ => by
  subst hw
  rw [bs_list, Int.toNat_natCast, show x.toNat.toUInt8 = x by simp] at he
  exact ⟨_, he, rfl, Below.refl _ _⟩) fun r hr => by subst hr; exact ⟨rfl, rfl⟩
theorem ContainsRune_hi (c0 c1 : UInt8) (s : List UInt8) (hs : ∀ c ∈ c0 :: c1 :: s, c.toNat < 128) (hl : s.length ≤ 1000) (x : UInt8) (hx : 128 ≤ x.toNat) : ∀ H, SpecH Tryz.prog 88 (pvs [.string (bs (c0 :: c1 :: s)), .int .i32 (x.toNat : Int)]) H (Ret (.bool false) H) := by
 refine pureC hm Tryz.func88 (by kernel_rfl) rfl rfl ?_
 refine wX ?_
 refine call1 (IndexRune_hi c0 c1 s hs hl x hx _) ?_
 refine wX ?_
 rfl
theorem ContainsRune_m (c0 c1 : UInt8) (s : List UInt8) (hs : ∀ c ∈ c0 :: c1 :: s, c.toNat < 128) (hl : s.length ≤ 1000) (x : UInt8) : ∀ H, SpecH Tryz.prog 88 (pvs [.string (bs (c0 :: c1 :: s)), .int .i32 (x.toNat : Int)]) H (Ret (.bool (decide (x ∈ c0 :: c1 :: s))) H) := by
 intro H
 by_cases hx : x.toNat < 128
 ·have h := ContainsRune_lo (c0 :: c1 :: s) x hx H
  have e : decide (0 ≤ Lib.indexByte (c0 :: c1 :: s) x) = decide (x ∈ c0 :: c1 :: s) := by
   by_cases hm2 : x ∈ c0 :: c1 :: s
   ·rw [decide_eq_true hm2]
    have : ¬ Lib.indexByte (c0 :: c1 :: s) x < 0 := by
     rw [index_lt, List.contains_iff_mem.2 hm2]
     exact fun h => by cases h
    simp; omega
   ·rw [decide_eq_false hm2, index_none _ _ hm2]
    rfl
  rw [← e]
  exact h
 ·have h := ContainsRune_hi c0 c1 s hs hl x (by omega) H
  rw [decide_eq_false (fun hm2 => hx (hs x hm2))]
  exact h
end Go.Proofs.YtgogonnnojcioaaGreatDoor
