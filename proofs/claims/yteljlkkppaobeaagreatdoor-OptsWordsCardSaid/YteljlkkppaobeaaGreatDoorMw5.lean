/-
  Lemmas (Ax30 C4 P2 P3 C5 Ax39 Ax41 Ax26 Ax31 Ax32 Ax33 Ax40 C6 C7 P5 C8).
-/
import Derived.Laws.IdiomStrings
import Derived.WideMake
import Derived.Lib.AppendZerosOnto
import Derived.Test.YteljlkkppaobeaaGreatDoorMw4
/-
  AX, thirtieth text: bytes of a string; own entries that nobody writes any more become facts.
-/
namespace Go.AX

theorem EffW.appTo {P : Program} {o : Oper} {s : List AV} {H : List Ent} {K : AV → List Ent → Prop} {Ty T : TypeId} {x y : Operand} {sz n cap b q i : Nat} {xs ys : List Value} {inf : TypeInfo} (zs : List Value) (sz' : Nat) (ho : o.op = .store Ty x y)
    (hx : opv s x = .c (.v (.pointer (some ⟨b, q, none⟩)))) (hi : nthE H i = some (.app T sz xs (some ⟨b, 0, none⟩) n cap)) (hy : avCells (opv s y) = some (vs ys)) (hone : oneCs (vs ys) = true) (hinf : P.info? Ty = some inf) (hlen : ys.length = inf.size)
    (hq : q + ys.length ≤ n * sz) (hz : xs.take q ++ ys ++ xs.drop (q + ys.length) = zs) (hs : sz = sz') (hk : setEK H i (.app T sz' zs (some ⟨b, 0, none⟩) n cap) fun H' => K (.c .any) H') : EffW P o s H K := by
  subst hz; subst hs
  exact EffW.app ho hx hi hy hone hinf hlen hq hk
theorem put_set {xs : List Value} {q : Nat} (v : Value) (h : q < xs.length) : xs.take q ++ [v] ++ xs.drop (q + [v].length) = xs.set q v := by
  rw [List.set_eq_take_append_cons_drop, if_pos h]
  simp
/-- The arguments in another spelling. -/
theorem SpecH.args {P : Program} {f : FuncId} {args args' : List AV} {H : List Ent} {K : Out → List Ent → Prop} (e : args = args') (h : SpecH P f args' H K) : SpecH P f args H K := e ▸ h
theorem plains_vs : ∀ xs : List Value, plains (vs xs) = some xs
  | [] => rfl
  | _ :: xs => by simp [vs, plains, plains_vs xs]
/-- string(b) of bytes of the call's own. -/
theorem ReadW.bytesOwn {P : Program} {o : Oper} {s : List AV} {H : List Ent} {K : AV → Prop} {src dst e : TypeId} {x : Operand} {i n : Nat} (l : List UInt8) (hn : l.length = n) (ho : o.op = .convert src dst x) (hs : P.underlying src = some (.slice e))
    (he : P.underlying e = some (.int .u8)) (hd : P.underlying dst = some .string) (hx : opv s x = .c (.sl i n)) (hi : nthE H i = some (.row e 1 n (vs (u8s l)))) (hk : K (.c (.v (.string (bs l))))) : ReadW P o s H K := by
  subst hn
  rw [nthE_eq] at hi
  refine ⟨.c (.v (.string (bs l))), hk, fun ρ S w ac hsat hr => ⟨.string (bs l), ?_, rfl⟩⟩
  obtain ⟨l', arr, hl, hb, h1, h2, h3, h4, hrel⟩ := hsat.ent i _ hi
  have hxr := opv_rel hr x
  rw [hx] at hxr
  obtain ⟨l2, hl2, hxe⟩ := hxr
  obtain rfl := Option.some.inj (hl2.symm.trans hl)
  have hrun := run_convert_bytes_back w src dst e ⟨l2.b, 0, none⟩ l2.cap l hs he hd (fun j hj => by
    have e0 := vs_only hrel
    rw [add_lit0, cell_of_row w l2.b j arr e (0, 0) hb]
    have : (arr.toList.take (l.length * 1))[j]? = (u8s l)[j]? := by rw [e0]
    rw [List.getElem?_take, if_pos (by omega)] at this
    rw [← Array.getElem?_toList, this]
    simp [u8s, hj])
  unfold execOp
  simp only [ho, hxe, Sem.run_bind, hrun, Result.andThen_ok, Sem.run_pure]
  rfl
/-- make([]T, 0, n) -/
theorem EffW.mkEmpty {P : Program} {o : Oper} {s : List AV} {H : List Ent} {K : AV → List Ent → Prop} {t e : TypeId} {x y : Operand} {inf : TypeInfo} {z : Value} (n : Nat) (ho : o.op = .makeSlice t x y) (ht : P.underlying t = some (.slice e)) (hi : P.info? e = some inf) (hz : inf.zero = some z)
    (hx : opv s x = .c (.v (.int .i64 0))) (hy : opv s y = .c (.v (.int .i64 (n : Int)))) (hn : n ≤ 1000000 ∧ inf.size ≤ 16 ∧ inf.bytes ≤ 1000)
    (next : ∀ b, K (.c (.v (.slice (some ⟨b, 0, none⟩) 0 n))) (H ++ [.app e inf.size [] (some ⟨b, 0, none⟩) 0 n])) : EffW P o s H K := by
  intro ρ S w a hs hr
  have hxr := opv_rel hr x
  have hyr := opv_rel hr y
  rw [hx] at hxr; rw [hy] at hyr
  have hxe : a.eval x = .int .i64 0 := hxr
  have hye : a.eval y = .int .i64 (n : Int) := hyr
  have hm1 : n * inf.size ≤ n * 16 := Nat.mul_le_mul_left _ hn.2.1
  have hm2 : inf.bytes * n ≤ 1000 * n := Nat.mul_le_mul_right _ hn.2.2
  have hrun := run_makeSlice (P := P) (w := w) t e inf z ht hi hz .i64 .i64 0 (n : Int) (Int.le_refl _) (by omega) (by rw [Int.toNat_natCast]; omega) (by rw [← Int.natCast_mul]; omega) (by omega)
  simp only [Int.toNat_natCast] at hrun
  have hrow : RowF e inf.size 0 [] w.heap.size n (w.alloc (.cells (madeCells z.cells (n * inf.size)) e)) :=
    ⟨_, (0, 0), ⟨heap_alloc_new w _, .inl rfl⟩, by simp, Nat.zero_le _, by simp only [maxLen]; omega, by rw [size_madeCells], by simp⟩
  have hS := hs.newApp (w' := w.alloc (.cells (madeCells z.cells (n * inf.size)) e)) rfl rfl rfl rfl hrow
  refine ⟨_, _, next w.heap.size, _, _, _, _, ?_, .inl rfl, hS.1, hS.2, rfl⟩
  unfold execOp
  simp only [ho, hxe, hye, Sem.run_bind, Sem.run_pure, hrun, Result.andThen_ok]
  rfl
/-- []byte(s) -/
theorem EffW.bytesOf {P : Program} {o : Oper} {s : List AV} {H : List Ent} {K : AV → List Ent → Prop} {src dst e : TypeId} {x : Operand} (l : List UInt8) (ho : o.op = .convert src dst x) (hs : P.underlying src = some .string) (hd : P.underlying dst = some (.slice e)) (he : P.underlying e = some (.int .u8))
    (hx : opv s x = .c (.v (.string (bs l)))) (hl : l.length ≤ 140737488355328) (next : ∀ b cap : Nat, l.length ≤ cap → cap ≤ maxLen → K (.c (.v (.slice (some ⟨b, 0, none⟩) l.length cap))) (H ++ [.app e 1 (u8s l) (some ⟨b, 0, none⟩) l.length cap])) : EffW P o s H K := by
  intro ρ S w ac hsat hr
  have hxr := opv_rel hr x
  rw [hx] at hxr
  have hxe : ac.eval x = .string (bs l) := hxr
  have hrun := run_bytes_of_string (P := P) w src dst e (bs l) hs hd he
  rw [bs_size] at hrun
  have hge := grownCap_ge w l.length 0 e
  have hgm := grownCap_le_maxLen w l.length 0 e (by simp only [maxLen]; omega)
  generalize grownCap w l.length 0 e = cap at hrun hge hgm
  have hsz : (bytesRow (bs l) cap).size = cap := by
    have e1 : (bs l).data.size = l.length := by simp [bs]
    simp only [bytesRow, Array.size_append, Array.size_map, Array.size_replicate, bs_size, e1]
    omega
  have hrow : RowF e 1 l.length (u8s l) w.heap.size cap (w.drew.alloc (.cells (bytesRow (bs l) cap) e ((bytesRow (bs l) cap).size, (bytesRow (bs l) cap).size + 1))) := by
    refine ⟨_, _, ⟨heap_alloc_new w.drew _, .inr (Nat.le_refl _)⟩, by simp [u8s_len], hge, hgm, by rw [hsz, Nat.mul_one], ?_⟩
    rw [Nat.mul_one]
    unfold bytesRow
    rw [Array.toList_append, List.take_append_of_le_length (by simp [bs]), List.take_of_length_le (by simp [bs])]
    simp [bs, u8s]
  have hS := hsat.newApp (w' := w.drew.alloc (.cells (bytesRow (bs l) cap) e ((bytesRow (bs l) cap).size, (bytesRow (bs l) cap).size + 1))) rfl rfl rfl rfl hrow
  refine ⟨_, _, next w.heap.size cap hge hgm, _, _, _, _, ?_, .inl rfl, hS.1, hS.2, rfl⟩
  unfold execOp
  simp only [ho, hxe, Sem.run_bind, hrun, Result.andThen_ok, Sem.run_pure]

/-- Own entries that nobody writes any more: what they say becomes facts. -/
theorem Sat.seal {ρ : List Loc} {S : Nat → Prop} {H : List Ent} {w : World} (h : Sat ρ S H w) {G : List Ent} (hl : G.length ≤ H.length) (hG : ∀ e ∈ G, e = .dead ∨ ∃ Γ, e = .fact Γ ∧ ∀ w, Facts H w → Γ w) :
    Sat (ρ.take G.length) (fun b => S b ∨ appB H b) G w ∧ ∀ ρ' b, ¬ mb ρ' G b := by
  have hno : ∀ (ρ' : List Loc) (i : Nat) (e : Ent), G[i]? = some e → entB ρ' i e = none := fun ρ' i e he => by
    rcases hG e (List.mem_of_getElem? he) with rfl | ⟨Γ, rfl, _⟩ <;> rfl
  have hmb : ∀ ρ' b, ¬ mb ρ' G b := fun ρ' b ⟨i, e, he, hb⟩ => by rw [hno ρ' i e he] at hb; cases hb
  refine ⟨⟨by rw [List.length_take, h.len]; omega, fun i e he => ?_, fun i j e f b he _ hb _ => ?_, fun b hb => absurd hb (hmb _ b), fun b hb => ?_⟩, hmb⟩
  · rcases hG e (List.mem_of_getElem? he) with rfl | ⟨Γ, rfl, hΓ⟩
    · trivial
    · exact h.imm.mono hΓ
  · rw [hno _ i e he] at hb; cases hb
  · rcases hb with hb | hb
    · exact h.low b hb
    · obtain ⟨i, e, he, heb⟩ := appB_mb (ρ := ρ) hb
      exact h.blk_lt he heb
theorem SpecH.seal {P : Program} {f : FuncId} {args : List AV} {H : List Ent} {ι : Type} {inv : ι → Prop} {val : ι → Value} {G : ι → List Ent} (hl : ∀ i, inv i → H.length ≤ (G i).length)
    (h : SpecH P f args H fun out H' => ∃ i, inv i ∧ out = .val (.c (.v (val i))) ∧ (G i).length ≤ H'.length ∧ ∀ e ∈ G i, e = .dead ∨ ∃ Γ, e = .fact Γ ∧ ∀ w, Facts H' w → Γ w) : SpecH P f args H (RetG inv val G) := by
  refine ⟨h.ok, fun ρ S w vs hs hr => (h.run ρ S w vs hs hr).mono fun e w' ⟨ρ', S', H', out, hs', hev, hout, i, hi, hx, hln, hG⟩ => ?_⟩
  subst hx
  obtain ⟨h1, h2⟩ := hs'.seal hln hG
  refine ⟨ρ'.take (G i).length, _, G i, .val (.c (.v (val i))), h1, ⟨?_, hev.os, hev.tape, hev.output, hev.size, hev.keep, fun b hb => ?_, fun b hb => absurd hb (h2 _ b)⟩, hout, i, hi, rfl, rfl⟩
  · obtain ⟨t, ht⟩ := hev.pre
    refine ⟨t.take ((G i).length - ρ.length), ?_⟩
    rw [ht, List.take_append, List.take_of_length_le (by rw [hs.len]; exact hl i hi)]
  · rcases hb with hb | hb
    · exact hev.imm b hb
    · rcases hev.own b (appB_mb (ρ := ρ') hb) with h3 | h3
      · exact .inr (.inl h3)
      · exact .inr (.inr h3)
end Go.AX

/-
  Contract: Check (program).
-/
namespace Go.Proofs.YteljlkkppaobeaaGreatDoor
open Go.AX Go.RowKit Go.Opts
set_option maxRecDepth 20000

/-- The options from one on are valid among those ahead. -/
def chkF (l : List Opt) (i : Nat) : Bool := match l[i]? with | some o => okB o && !(l.take i).any (oneB o) | none => true
theorem chk_def (l : List Opt) : chkB l = (decide (l.length ≤ 30) && (List.range l.length).all (chkF l)) := rfl
theorem Check_c (ab : Option Nat) (cap : Nat) (l : List Opt) (ha : ab = none → l = []) (hcap : l.length ≤ cap) (hl : l.length ≤ 100000) (hn : ∀ o ∈ l, o.name.length ≤ 1000000000) : ∀ H, (∀ w, Facts H w → SlAt (at0 ab) (l.length * 5) (optsC l) w) →
    SpecH Tryz.prog 16 (pvs [.slice (at0 ab) l.length cap]) H (Ret (.int .i64 (if chkB l then 0 else 1)) H) := by
  refine factC hm Tryz.func16 (by kernel_rfl) rfl rfl ?_
  (first | refine wX ?_ | exact wZ)
  refine brd_dec (fun h0 => ?_) (fun h0 => ?_)
  · rw [chk_def, show decide (l.length ≤ 30) = false by simp; omega]
    (first | refine wX ?_ | exact wZ)
    rfl
  rw [chk_def, show decide (l.length ≤ 30) = true by simp; omega, Bool.true_and]
  (first | refine wX ?_ | exact wZ)
  refine loopS Nat (fun i => i ≤ l.length ∧ (List.range i).all (chkF l) = true) (fun i => mkS Tryz.f16.ntmps 0 [(0, .c (.v (.slice (at0 ab) l.length cap))), (2, .c (.v (.int .i64 0))), (8, .c (.v (.slice (at0 ab) l.length cap))), (9, .c (.v (.int .i64 (l.length : Int)))), (10, .c (.v (.int .i64 (i : Int))))]) (fun i => l.length - i) rfl (fun _ => rfl) 0 ⟨Nat.zero_le _, rfl⟩ ?_ fun i ⟨hi, he⟩ => ?_
  · (repeat' (first | exact trivial | refine And.intro (by with_reducible rfl) ?_ | (with_reducible exact wkC_refl _) | (with_reducible exact wkCs_refl _) | refine And.intro ?_ ?_))
    all_goals rfl
  (first | refine wX ?_ | exact wZ)
  refine brd_dec (fun h1 => ?_) (fun h1 => ?_)
  · obtain ⟨o, ho⟩ : ∃ o, l[i]? = some o := ⟨_, List.getElem?_eq_getElem (by omega)⟩
    have hsa : (at0 ab).isSome = true := by
      cases ab with
      | none => rw [ha rfl] at ho; cases ho
      | some b => rfl
    have hall : ∀ b, chkF l i = b → (List.range l.length).all (chkF l) = true → b = true := fun b hb h => by
      rw [← hb]
      exact List.all_eq_true.1 h i (List.mem_range.2 (by omega))
    have hchk : chkF l i = (okB o && !(l.take i).any (oneB o)) := by unfold chkF; rw [ho]
    have hno : okB o = false ∨ (l.take i).any (oneB o) = true → (List.range l.length).all (chkF l) = false := fun h => by
      rw [Bool.eq_false_iff]
      intro h2
      have h3 := hall _ hchk h2
      rcases h with h | h <;> simp [h] at h3
    (first | refine wX ?_ | exact wZ)
    refine Nd.mk ⟨hsa, by omega, by omega⟩ ?_
    (first | refine wX ?_ | exact wZ)
    refine LdN.agg (optC o) rfl (fun w hw => hw.1) rfl (fun j hj => by
      rw [Int.toNat_natCast]
      exact optsC_get l i j hj ho) ?_
    ((conv => whnf); (repeat ((first | refine RwN.own ?_ | refine VrN.norm (wrap_i64 (by omega)) ?_ | refine VrN.keep ?_ | refine DrawN.calm (by decide +kernel) ?_ | refine Nd.mk (by decide +kernel) ?_ | refine Nd.mk (by omega) ?_ | (refine Nd.mk ?_ ?_; focus ((repeat' (first | exact trivial | exact wkE_refl _ | refine And.intro ?_ ?_)); done)) | refine RdN.intro _ rfl (by rfl) ?_); (conv => whnf))))
    refine BoxN.known _ rfl fun ob => ?_
    (first | refine wX ?_ | exact wZ)
    refine EffW.appTo (i := 1) (q := 0) (ys := optC o) (optC o) 5 rfl rfl rfl rfl rfl rfl rfl (Nat.le_of_ble_eq_true rfl) rfl rfl ?_
    (first | refine wX ?_ | exact wZ)
    refine LdN.agg (a := some ⟨ob, 0, none⟩) (q := 0) (optC o) rfl (fun w hw => hw.2.1) rfl (fun j hj => by rw [Nat.zero_add]) ?_
    (first | refine wX ?_ | exact wZ)
    refine call1 (isOption_c o (hn o (List.mem_of_getElem? ho)) _) ?_
    cases hok : okB o with
    | false =>
      rw [hno (.inl hok)]
      (first | refine wX ?_ | exact wZ)
      rfl
    | true =>
    (first | refine wX ?_ | exact wZ)
    refine ReadW.slc_h (ob := ab) rfl (by kernel_rfl) rfl rfl (by omega) ?_
    rw [Int.toNat_natCast]
    (first | refine wX ?_ | exact wZ)
    refine SpecH.args (args' := pvs [.slice (at0 ab) i cap, .func (.func 26) #[] #[.pointer (some ⟨ob, 0, none⟩)]]) (by simp [pvs, opvs, opv, nth, plainEv]; try rfl) ?_
    refine call1 (ContainsFunc_c (oneB o) 26 #[.pointer (some ⟨ob, 0, none⟩)] (SlAt (some ⟨ob, 0, none⟩) 5 (optC o)) (fun p H hH => one_c o p ob H hH) (at0 ab) cap l i (fun h => ha (by cases ab with | none => rfl | some b => cases h)) hi hl _ ?_) ?_
    · exact fun w hw => ⟨hw.1, hw.2.1⟩
    cases hany : (l.take i).any (oneB o) with
    | true =>
      rw [hno (.inr hany)]
      (first | refine wX ?_ | exact wZ)
      rfl
    | false =>
      (first | refine wX ?_ | exact wZ)
      refine ⟨i + 1, ⟨by omega, ?_⟩, by omega, ?_, by (repeat' (first | exact trivial | exact wkE_refl _ | refine And.intro ?_ ?_))⟩
      · rw [List.range_succ, List.all_append, he, Bool.true_and, List.all_cons, hchk, hok, hany]
        rfl
      · (repeat' (first | exact trivial | refine And.intro (by with_reducible rfl) ?_ | (with_reducible exact wkC_refl _) | (with_reducible exact wkCs_refl _) | refine And.intro ?_ ?_))
        all_goals first | rfl | exact av_int (by rw [wrap_i64 (by omega)]; omega)
  · have hin : i = l.length := by omega
    subst hin
    rw [he]
    (first | refine wX ?_ | exact wZ)
    rfl
end Go.Proofs.YteljlkkppaobeaaGreatDoor

/-
  Plain: how words are read; words behind the two dashes are left.
-/
namespace Go.Opts

/-- What is known while words are read. -/
structure PS where
  at_ : Nat
  vals : Nat → List (List UInt8)
  given : List Int
  left : List (List UInt8)
def upd {α : Type} (f : Nat → α) (i : Nat) (x : α) : Nat → α := fun j => bif Nat.beq j i then x else f j
def trueL : List UInt8 := [116, 114, 117, 101]
def falseL : List UInt8 := [102, 97, 108, 115, 101]
def nextS (W : List (List UInt8)) (a : Nat) (any : Bool) : Option (List UInt8) :=
  match W[a]? with
  | none => none
  | some w => if !any && ([45] : List UInt8).isPrefixOf w then none else some w
def takeS (W : List (List UInt8)) (k : Int) (value : List UInt8) (has : Bool) (a : Nat) : Option (List UInt8 × Nat) :=
  if !has && (k == 1 || k == 2 || k == 4) then
    match nextS W a (!(k == 2)) with
    | some w => some (w, a + 1)
    | none => if k == 2 then some ([], a) else none
  else some (value, a)
def putS (k : Int) (no : Bool) (i : Nat) (v : List UInt8) (vals : Nat → List (List UInt8)) : Nat → List (List UInt8) :=
  if k == 3 then vals else if k == 4 then upd vals i (vals i ++ [v]) else if k == 0 || k == 5 then upd vals i [if no then falseL else trueL] else upd vals i [v]
def giveK (W : List (List UInt8)) (k : Int) (i : Nat) (no : Bool) (value : List UInt8) (has : Bool) (s : PS) : PS × Int :=
  if (k == 1 || k == 2) && decide (0 < s.given.getD i 0) then (s, 7)
  else if has && !(k == 1 || k == 2) && !(k == 4) then (s, 4)
  else match takeS W k value has s.at_ with
    | none => (s, 14)
    | some (v, a) => ({ at_ := a, vals := putS k no i v s.vals, given := s.given.set i (IntKind.i64.wrap (s.given.getD i 0 + 1)), left := s.left }, 0)
def kindAt (l : List Opt) (i : Nat) : Int := match l[i]? with | some o => o.kind | none => 0
def giveS (l : List Opt) (W : List (List UInt8)) (i : Nat) (no : Bool) (value : List UInt8) (has : Bool) (s : PS) : PS × Int := giveK W (kindAt l i) i no value has s
def longS (l : List Opt) (W : List (List UInt8)) (w : List UInt8) (s : PS) : PS × Int :=
  let c := Lib.cut (w.drop 2) [61]
  let f := findS l c.1
  if f.2.2 = 0 then giveS l W f.1 f.2.1 c.2.1 c.2.2 s else (s, f.2.2)
def shortI (c : UInt8) : List Opt → Nat → Int
  | [], _ => -1
  | o :: l, i => if o.short == c then (i : Int) else shortI c l (i + 1)
def takesB (k : Int) : Bool := k == 1 || k == 2 || k == 4
def shortS (l : List Opt) (W : List (List UInt8)) : List UInt8 → PS → PS × Int
  | [], s => (s, 0)
  | c :: r, s =>
    if shortI c l 0 < 0 ∨ c = 0 then (s, 6)
    else
      let i := (shortI c l 0).toNat
      match giveS l W i false r (takesB (kindAt l i) && r != []) s with
      | (s', e) => if e = 0 then (if takesB (kindAt l i) then (s', 0) else shortS l W r s') else (s', e)
/-- One word. -/
def stepS (l : List Opt) (W : List (List UInt8)) (stop : Bool) (w : List UInt8) (s : PS) : PS × Int :=
  let s1 : PS := { s with at_ := s.at_ + 1 }
  if w == [45, 45] then ({ s1 with left := s.left ++ W.drop (s.at_ + 1), at_ := W.length }, 0)
  else if ([45, 45] : List UInt8).isPrefixOf w then longS l W w s1
  else if decide (1 < w.length) && ([45] : List UInt8).isPrefixOf w then shortS l W (w.drop 1) s1
  else if stop then ({ s1 with left := s.left ++ W.drop s.at_, at_ := W.length }, 0)
  else ({ s1 with left := s.left ++ [w] }, 0)
def readS (l : List Opt) (W : List (List UInt8)) (stop : Bool) : Nat → PS → PS × Nat × Int
  | 0, s => (s, 0, 0)
  | n + 1, s => match W[s.at_]? with
    | none => (s, 0, 0)
    | some w => match stepS l W stop w s with
      | (s', e) => if e = 0 then readS l W stop n s' else (s', s.at_, e)
/-- What is done at the end, from an option on: what must be there, what is not said. -/
def finS (given : List Int) : Nat → List Opt → (Nat → List (List UInt8)) → (Nat → List (List UInt8)) × Option Nat
  | _, [], v => (v, none)
  | i, o :: l, v => if 0 < given.getD i 0 then finS given (i + 1) l v else if o.must then (v, some i) else if o.dflt != [] then finS given (i + 1) l (upd v i [o.dflt]) else finS given (i + 1) l v
def initS (l : List Opt) : PS := ⟨0, fun _ => [], List.replicate l.length 0, []⟩
def parseS (l : List Opt) (W : List (List UInt8)) (stop : Bool) : PS × Nat × Int :=
  if !chkB l || decide (200 < W.length) then (initS l, 0, 1)
  else match readS l W stop (W.length + 1) (initS l) with
    | (s, a, e) => if e ≠ 0 then (s, a, e)
      else match finS s.given 0 l s.vals with
        | (_, some i) => (s, i, 3)
        | (v, none) => ({ s with vals := v }, 0, 0)

/-! ### Words behind the two dashes -/
theorem give_at {l : List Opt} {W : List (List UInt8)} {i : Nat} {no : Bool} {value : List UInt8} {has : Bool} {s s' : PS} {e : Int} (h : giveS l W i no value has s = (s', e)) : s.at_ ≤ s'.at_ ∧ (s.at_ ≤ W.length → s'.at_ ≤ W.length) ∧ s'.left = s.left ∧ s'.given.length = s.given.length := by
  unfold giveS giveK at h
  split at h
  · cases h; exact ⟨Nat.le_refl _, fun x => x, rfl, rfl⟩
  split at h
  · cases h; exact ⟨Nat.le_refl _, fun x => x, rfl, rfl⟩
  split at h
  · cases h; exact ⟨Nat.le_refl _, fun x => x, rfl, rfl⟩
  · rename_i v a hv
    cases h
    refine ⟨?_, ?_, rfl, by simp⟩
    · unfold takeS at hv
      show s.at_ ≤ a
      split at hv
      · split at hv
        · cases hv; omega
        · split at hv
          · cases hv; exact Nat.le_refl _
          · cases hv
      · cases hv; exact Nat.le_refl _
    · intro hs
      show a ≤ W.length
      unfold takeS at hv
      split at hv
      · split at hv
        · rename_i w hw
          cases hv
          unfold nextS at hw
          split at hw
          · cases hw
          · rename_i w' hw'
            have := (List.getElem?_eq_some_iff.1 hw').1
            omega
        · split at hv
          · cases hv; exact hs
          · cases hv
      · cases hv; exact hs
theorem short_at {l : List Opt} {W : List (List UInt8)} : ∀ {cs : List UInt8} {s s' : PS} {e : Int}, shortS l W cs s = (s', e) → s.at_ ≤ s'.at_ ∧ (s.at_ ≤ W.length → s'.at_ ≤ W.length) ∧ s'.left = s.left ∧ s'.given.length = s.given.length
  | [], s, s', e, h => by cases h; exact ⟨Nat.le_refl _, fun x => x, rfl, rfl⟩
  | c :: r, s, s', e, h => by
    unfold shortS at h
    split at h
    · cases h; exact ⟨Nat.le_refl _, fun x => x, rfl, rfl⟩
    simp only at h
    generalize hg : giveS l W (shortI c l 0).toNat false r (takesB (kindAt l (shortI c l 0).toNat) && r != []) s = g at h
    obtain ⟨s1, e1⟩ := g
    have h1 := give_at hg
    simp only at h
    split at h
    · split at h
      · cases h; exact h1
      · have h2 := short_at h
        exact ⟨Nat.le_trans h1.1 h2.1, fun x => h2.2.1 (h1.2.1 x), h2.2.2.1.trans h1.2.2.1, h2.2.2.2.trans h1.2.2.2⟩
    · cases h; exact h1
theorem long_at {l : List Opt} {W : List (List UInt8)} {w : List UInt8} {s s' : PS} {e : Int} (h : longS l W w s = (s', e)) : s.at_ ≤ s'.at_ ∧ (s.at_ ≤ W.length → s'.at_ ≤ W.length) ∧ s'.left = s.left ∧ s'.given.length = s.given.length := by
  unfold longS at h
  simp only at h
  split at h
  · exact give_at h
  · cases h; exact ⟨Nat.le_refl _, fun x => x, rfl, rfl⟩
theorem step_at {l : List Opt} {W : List (List UInt8)} {stop : Bool} {w : List UInt8} {s s' : PS} {e : Int} (ha : s.at_ < W.length) (h : stepS l W stop w s = (s', e)) : s.at_ < s'.at_ ∧ s'.at_ ≤ W.length ∧ s'.given.length = s.given.length ∧ (s.left.length ≤ s.at_ → s'.left.length ≤ s'.at_) := by
  unfold stepS at h
  simp only at h
  split at h
  · cases h
    exact ⟨ha, Nat.le_refl _, rfl, fun x => by simp; omega⟩
  split at h
  · obtain ⟨h1, h2, h3, h4⟩ := long_at h
    have h1' : s.at_ + 1 ≤ s'.at_ := h1
    exact ⟨h1', h2 ha, h4, fun x => by rw [h3]; show s.left.length ≤ _; omega⟩
  split at h
  · obtain ⟨h1, h2, h3, h4⟩ := short_at h
    have h1' : s.at_ + 1 ≤ s'.at_ := h1
    exact ⟨h1', h2 ha, h4, fun x => by rw [h3]; show s.left.length ≤ _; omega⟩
  split at h
  · cases h
    exact ⟨ha, Nat.le_refl _, rfl, fun x => by simp; omega⟩
  · cases h
    exact ⟨Nat.lt_succ_self _, ha, rfl, fun x => by simp; omega⟩
end Go.Opts

/-
  Plain: options that numbers make are valid; a full name, and each beginning that fits only one name, are the same option.
-/
namespace Go.Opts

def nameG : Nat → List UInt8
  | 0 => [118, 101, 114, 98, 111, 115, 101]
  | 1 => [111, 117, 116]
  | 2 => [118, 101, 114, 115, 105, 111, 110]
  | 3 => [111, 50]
  | 4 => [113, 117, 105, 101, 116]
  | 5 => [102, 105, 108, 101, 45, 110, 97, 109, 101]
  | 6 => [110, 49]
  | _ => [111, 117, 116, 45, 102, 105, 108, 101]
/-! ### What is found -/
def formsL : Nat → List Opt → List (Nat × Bool × List UInt8)
  | _, [] => []
  | i, o :: l => (i, false, o.name) :: (if o.kind == 5 then [(i, true, [110, 111, 45] ++ o.name)] else []) ++ formsL (i + 1) l
def foldF (name : List UInt8) : List (Nat × Bool × List UInt8) → Hit → Hit
  | [], h => h
  | f :: l, h => foldF name l (form1 f.1 f.2.1 f.2.2 name h)
theorem foldF_app (name : List UInt8) : ∀ (l m : List (Nat × Bool × List UInt8)) (h : Hit), foldF name (l ++ m) h = foldF name m (foldF name l h)
  | [], _, _ => rfl
  | f :: l, m, h => by show foldF name (l ++ m) _ = foldF name m (foldF name l _); rw [foldF_app name l m]
theorem hitS_fold (name : List UInt8) : ∀ (l : List Opt) (i : Nat) (h : Hit), hitS name i l h = foldF name (formsL i l) h
  | [], _, _ => rfl
  | o :: l, i, h => by
    unfold hitS formsL
    rw [foldF_app, hitS_fold name l]
    congr 1
    unfold forms1
    by_cases h5 : (o.kind == 5) = true
    · rw [if_pos h5, if_pos h5]; rfl
    · rw [if_neg h5, if_neg h5]; rfl
theorem forms_mem : ∀ (l : List Opt) (i : Nat) (f : Nat × Bool × List UInt8), f ∈ formsL i l → ∃ o, i ≤ f.1 ∧ l[f.1 - i]? = some o ∧ (f.2.1 = false ∧ f.2.2 = o.name ∨ f.2.1 = true ∧ f.2.2 = [110, 111, 45] ++ o.name)
  | [], _, _, h => by cases h
  | o :: l, i, f, h => by
    unfold formsL at h
    rcases List.mem_append.1 h with h | h
    · rcases List.mem_cons.1 h with h | h
      · subst h
        exact ⟨o, Nat.le_refl _, by simp, .inl ⟨rfl, rfl⟩⟩
      · split at h
        · rcases List.mem_singleton.1 h with rfl
          exact ⟨o, Nat.le_refl _, by simp, .inr ⟨rfl, rfl⟩⟩
        · cases h
    · obtain ⟨o', h1, h2, h3⟩ := forms_mem l (i + 1) f h
      refine ⟨o', by omega, ?_, h3⟩
      rw [show f.1 - i = (f.1 - (i + 1)) + 1 by omega, List.getElem?_cons_succ]
      exact h2
theorem fold_done (name : List UInt8) : ∀ (l : List (Nat × Bool × List UInt8)) (h : Hit), h.full.isSome = true → foldF name l h = h
  | [], _, _ => rfl
  | f :: l, h, hs => by
    unfold foldF
    have : form1 f.1 f.2.1 f.2.2 name h = h := by unfold form1; rw [if_pos hs]
    rw [this]
    exact fold_done name l h hs
/-- A full name. -/
theorem fold_full (name : List UInt8) : ∀ (l : List (Nat × Bool × List UInt8)) (h : Hit), h.full = none →
    (∀ p, (foldF name l h).full = some p → (p.1, p.2, name) ∈ l) ∧ ((∃ f ∈ l, f.2.2 = name) → (foldF name l h).full.isSome = true)
  | [], h, hn => ⟨fun p hp => (by rw [show foldF name [] h = h from rfl, hn] at hp; cases hp), fun ⟨f, hf, _⟩ => (by cases hf)⟩
  | f :: l, h, hn => by
    unfold foldF
    by_cases h1 : f.2.2 = name
    · have hs : form1 f.1 f.2.1 f.2.2 name h = { h with full := some (f.1, f.2.1) } := by
        unfold form1
        rw [hn]
        simp [h1]
      rw [hs, fold_done _ _ _ rfl]
      refine ⟨fun p hp => ?_, fun _ => rfl⟩
      cases hp
      rw [← h1]
      exact List.mem_cons_self ..
    · have hs : (form1 f.1 f.2.1 f.2.2 name h).full = none := by
        unfold form1
        rw [hn]
        simp only [Option.isSome_none, Bool.false_eq_true, if_false]
        rw [if_neg (by simpa using h1)]
        split <;> first | rfl | exact hn
      obtain ⟨ha, hb⟩ := fold_full name l _ hs
      refine ⟨fun p hp => List.mem_cons_of_mem _ (ha p hp), fun ⟨g, hg, hgn⟩ => hb ?_⟩
      rcases List.mem_cons.1 hg with rfl | hg
      · exact absurd hgn h1
      · exact ⟨g, hg, hgn⟩
end Go.Opts

/-
  Contracts: find, Find (program).
-/
namespace Go.Proofs.YteljlkkppaobeaaGreatDoor
open Go.AX Go.RowKit Go.Opts
set_option maxRecDepth 20000

def strC (l : List (List UInt8)) : List Value := l.map fun s => .string (bs s)
/-- The forms of one option. -/
def formL (i : Nat) (o : Opt) : List (Nat × Bool × List UInt8) := (i, false, o.name) :: (if o.kind == 5 then [(i, true, [110, 111, 45] ++ o.name)] else [])
theorem hit_step (name : List UInt8) (i : Nat) (o : Opt) (r : List Opt) (h : Hit) : hitS name i (o :: r) h = hitS name (i + 1) r (foldF name (formL i o) h) := by
  rw [hitS_fold, hitS_fold, formsL, foldF_app]
  rfl
theorem form_get {i k : Nat} {o : Opt} {f : Nat × Bool × List UInt8} (h : (formL i o)[k]? = some f) : f.1 = i ∧ f.2.1 = decide (k = 1) := by
  unfold formL at h
  rcases k with _ | _ | k
  · cases h; exact ⟨rfl, rfl⟩
  · rw [List.getElem?_cons_succ] at h
    split at h
    · cases h; exact ⟨rfl, rfl⟩
    · cases h
  · rw [List.getElem?_cons_succ] at h
    split at h
    · cases h
    · cases h
theorem fold_drop (name : List UInt8) (l : List (Nat × Bool × List UInt8)) (k : Nat) {f : Nat × Bool × List UInt8} (h : l[k]? = some f) (g : Hit) : foldF name (l.drop k) g = foldF name (l.drop (k + 1)) (form1 f.1 f.2.1 f.2.2 name g) := by
  obtain ⟨hlt, hx⟩ := List.getElem?_eq_some_iff.1 h
  rw [List.drop_eq_getElem_cons hlt, hx]
  rfl
theorem find_val {l : List Opt} {name : List UInt8} {h : Hit} (e : hitS name 0 l ⟨none, 0, false, 0⟩ = h) : findS l name = match h.full with
    | some (i, k) => (i, k, 0)
    | none => if h.hits = 0 then (0, false, 6) else if h.hits = 1 then (h.at_, h.no, 0) else (0, false, 7) := by
  unfold findS
  simp only
  rw [e]
  cases h.full with
  | none => rfl
  | some p => obtain ⟨i, k⟩ := p; rfl
set_option maxHeartbeats 2000000 in
theorem find_c (a : Option Addr) (cap : Nat) (l : List Opt) (name : List UInt8) (ha : a = none → l = []) (hl : l.length ≤ 100000) (hn : ∀ o ∈ l, o.name.length ≤ 1000000000) : ∀ H, (∀ w, Facts H w → SlAt a (l.length * 5) (optsC l) w) →
    SpecH Tryz.prog 42 (pvs [.slice a l.length cap, .string (bs name)]) H (Ret (.tuple #[.int .i64 ((findS l name).1 : Int), .bool (findS l name).2.1, .int .i64 (findS l name).2.2]) H) := by
  refine factC hm Tryz.func42 (by kernel_rfl) rfl rfl ?_
  (first | refine wX ?_ | exact wZ)
  refine loopS (Nat × Hit) (fun ⟨i, h⟩ => i ≤ l.length ∧ h.full = none ∧ h.hits ≤ 2 * i ∧ hitS name 0 l ⟨none, 0, false, 0⟩ = hitS name i (l.drop i) h) (fun ⟨i, h⟩ => mkS Tryz.f42.ntmps 0 [(0, .c (.v (.slice a l.length cap))), (1, .c (.v (.string (bs name)))), (4, .c (.v (.int .i64 0))), (5, .c (.v (.bool false))), (6, .c (.v (.int .i64 0))), (7, .c (.v (.int .i64 (h.at_ : Int)))), (8, .c (.v (.bool h.no))), (9, .c (.v (.int .i64 (h.hits : Int)))), (15, .c (.v (.slice a l.length cap))), (16, .c (.v (.int .i64 (l.length : Int)))), (17, .c (.v (.int .i64 (i : Int))))]) (fun ⟨i, _⟩ => l.length - i) rfl (fun _ => rfl) ⟨0, ⟨none, 0, false, 0⟩⟩ ⟨Nat.zero_le _, rfl, Nat.le_refl _, rfl⟩ ?_ fun ⟨i, h⟩ ⟨hi, hfull, hhits, he⟩ => ?_
  · (repeat' (first | exact trivial | refine And.intro (by with_reducible rfl) ?_ | (with_reducible exact wkC_refl _) | (with_reducible exact wkCs_refl _) | refine And.intro ?_ ?_))
    all_goals rfl
  (first | refine wX ?_ | exact wZ)
  refine brd_dec (fun h1 => ?_) (fun h1 => ?_)
  · obtain ⟨o, ho⟩ : ∃ o, l[i]? = some o := ⟨_, List.getElem?_eq_getElem (by omega)⟩
    have hsa : a.isSome = true := by
      cases a with
      | none => rw [ha rfl] at ho; cases ho
      | some b => rfl
    have hdc : l.drop i = o :: l.drop (i + 1) := by
      obtain ⟨hlt, hx⟩ := List.getElem?_eq_some_iff.1 ho
      rw [List.drop_eq_getElem_cons hlt, hx]
    rw [hdc] at he
    have hnl := hn o (List.mem_of_getElem? ho)
    have hnz := bs_size o.name
    (first | refine wX ?_ | exact wZ)
    refine Nd.mk ⟨hsa, by omega, by omega⟩ ?_
    (first | refine wX ?_ | exact wZ)
    refine LdN.agg (optC o) rfl (fun w hw => hw.1) rfl (fun j hj => by
      rw [Int.toNat_natCast]
      exact optsC_get l i j hj ho) ?_
    ((conv => whnf); (repeat ((first | refine BoxN.own ?_ | refine VrN.norm (wrap_i64 (by omega)) ?_ | refine VrN.keep ?_ | refine DrawN.calm (by decide +kernel) ?_ | refine Nd.mk (by decide +kernel) ?_ | refine Nd.mk (by omega) ?_ | (refine Nd.mk ?_ ?_; focus ((repeat' (first | exact trivial | exact wkE_refl _ | refine And.intro ?_ ?_)); done)) | refine RdN.intro _ rfl (by rfl) ?_); (conv => whnf))))
    refine RwN.known [_] rfl fun fb => ?_
    (first | refine wX ?_ | exact wZ)
    cases h5 : o.kind == 5 with
    | false =>
      (first | refine wX ?_ | exact wZ)
      -- fb: the block of the forms, 1: their number, 1: the capacity
      have hfn : (formL i o).length = 1 := by simp [formL, h5]
      refine loopS (Nat × Hit) (fun ⟨k, g⟩ => k ≤ 1 ∧ g.full = none ∧ g.hits ≤ 2 * i + k ∧ foldF name ((formL i o).drop k) g = foldF name (formL i o) h) (fun ⟨k, g⟩ => mkS Tryz.f42.ntmps 0 [(0, .c (.v (.slice a l.length cap))), (1, .c (.v (.string (bs name)))), (4, .c (.v (.int .i64 0))), (5, .c (.v (.bool false))), (6, .c (.v (.int .i64 0))), (7, .c (.v (.int .i64 (g.at_ : Int)))), (8, .c (.v (.bool g.no))), (9, .c (.v (.int .i64 (g.hits : Int)))), (10, .c (.v (.int .i64 (i : Int)))), (15, .c (.v (.slice a l.length cap))), (16, .c (.v (.int .i64 (l.length : Int)))), (17, .c (.v (.int .i64 (i : Int)))), (34, .c (.v (.slice (some ⟨fb, 0, none⟩) 1 1))), (35, .c (.v (.int .i64 1))), (36, .c (.v (.int .i64 (k : Int))))]) (fun ⟨k, _⟩ => 1 - k) rfl (fun _ => rfl) ⟨0, h⟩ ⟨Nat.zero_le _, hfull, by show h.hits ≤ 2 * i + 0; omega, rfl⟩ ?_ fun ⟨k, g⟩ ⟨hk, hgf, hgh, hge⟩ => ?_
      · (repeat' (first | exact trivial | refine And.intro (by with_reducible rfl) ?_ | (with_reducible exact wkC_refl _) | (with_reducible exact wkCs_refl _) | refine And.intro ?_ ?_))
        all_goals rfl
      (first | refine wX ?_ | exact wZ)
      refine brd_dec (fun h2 => ?_) (fun h2 => ?_)
      · obtain ⟨f, hf⟩ : ∃ f, (formL i o)[k]? = some f := ⟨_, List.getElem?_eq_getElem (by rw [hfn]; omega)⟩
        obtain ⟨hf1, hf2⟩ := form_get hf
        have hd := fold_drop name (formL i o) k hf g
        rw [hge] at hd
        have hcell : (.string (bs f.2.2) : Value) ∈ [(.string (bs f.2.2) : Value)] := List.mem_singleton.2 rfl
        (first | refine wX ?_ | exact wZ)
        try refine Nd.mk ⟨rfl, by omega, by omega⟩ ?_
        (first | refine wX ?_ | exact wZ)
        refine LdN.one (.string (bs f.2.2)) rfl (fun w hw => hw.2.1) (by
          rw [Int.toNat_natCast]
          rcases k with _ | _ | k
          · cases hf; rfl
          · first | (exfalso; omega) | (simp [formL, h5] at hf; subst hf; rfl)
          · omega) ?_
        (first | refine wX ?_ | exact wZ)
        rw [name_eq]
        cases hn : f.2.2 == name with
        | true =>
          have hst : form1 f.1 f.2.1 f.2.2 name g = { g with full := some (i, decide (k = 1)) } := by
            unfold form1
            rw [hgf, if_neg (by simp), if_pos hn, hf1, hf2]
          rw [hst, fold_done name ((formL i o).drop (k + 1)) { g with full := some (i, decide (k = 1)) } rfl] at hd
          rw [hit_step, hd, show hitS name (i + 1) (l.drop (i + 1)) { g with full := some (i, decide (k = 1)) } = { g with full := some (i, decide (k = 1)) } by rw [hitS_fold, fold_done _ _ _ rfl]] at he
          rw [find_val he]
          (first | refine wX ?_ | exact wZ)
          rw [show ((k : Int) == 1) = decide (k = 1) by rw [Bool.eq_iff_iff, beq_iff_eq, decide_eq_true_eq]; omega]
        | false =>
          have hgo : ∀ g', form1 f.1 f.2.1 f.2.2 name g = g' → g'.full = none ∧ foldF name ((formL i o).drop (k + 1)) g' = foldF name (formL i o) h := fun g' hg' => by
            rw [hg'] at hd
            refine ⟨?_, hd.symm⟩
            rw [← hg']
            unfold form1
            rw [hgf, if_neg (by simp), if_neg (by simp [hn])]
            split <;> first | rfl | exact hgf
          (first | refine wX ?_ | exact wZ)
          rw [show ((bs name).data.toList == (⟨#[]⟩ : ByteArray).data.toList) = (name == []) by rw [bs_list]]
          cases hne : name == [] with
          | true =>
            have hs : form1 f.1 f.2.1 f.2.2 name g = g := by
              unfold form1
              rw [hgf, if_neg (by simp), if_neg (by simp [hn]), if_neg (by rw [bne, hne]; simp)]
            obtain ⟨ha1, ha2⟩ := hgo g hs
            (first | refine wX ?_ | exact wZ)
            refine ⟨⟨k + 1, g⟩, ⟨by omega, ha1, by omega, ha2⟩, by show 1 - (k + 1) < 1 - k; omega, ?_, by (repeat' (first | exact trivial | exact wkE_refl _ | refine And.intro ?_ ?_))⟩
            (repeat' (first | exact trivial | refine And.intro (by with_reducible rfl) ?_ | (with_reducible exact wkC_refl _) | (with_reducible exact wkCs_refl _) | refine And.intro ?_ ?_))
            all_goals first | rfl | exact av_int (by rw [wrap_i64 (by omega)]; omega)
          | false =>
            (first | refine wX ?_ | exact wZ)
            refine call1 (HasPrefix_c f.2.2 name _) ?_
            cases hpf : name.isPrefixOf f.2.2 with
            | false =>
              have hs : form1 f.1 f.2.1 f.2.2 name g = g := by
                unfold form1
                rw [hgf, if_neg (by simp), if_neg (by simp [hn]), if_neg (by rw [hpf]; simp)]
              obtain ⟨ha1, ha2⟩ := hgo g hs
              (first | refine wX ?_ | exact wZ)
              refine ⟨⟨k + 1, g⟩, ⟨by omega, ha1, by omega, ha2⟩, by show 1 - (k + 1) < 1 - k; omega, ?_, by (repeat' (first | exact trivial | exact wkE_refl _ | refine And.intro ?_ ?_))⟩
              (repeat' (first | exact trivial | refine And.intro (by with_reducible rfl) ?_ | (with_reducible exact wkC_refl _) | (with_reducible exact wkCs_refl _) | refine And.intro ?_ ?_))
              all_goals first | rfl | exact av_int (by rw [wrap_i64 (by omega)]; omega)
            | true =>
              have hs : form1 f.1 f.2.1 f.2.2 name g = { g with at_ := i, no := decide (k = 1), hits := g.hits + 1 } := by
                unfold form1
                rw [hgf, if_neg (by simp), if_neg (by simp [hn]), if_pos (by rw [bne, hne, hpf]; rfl), hf1, hf2]
              obtain ⟨ha1, ha2⟩ := hgo _ hs
              (first | refine wX ?_ | exact wZ)
              refine ⟨⟨k + 1, { g with at_ := i, no := decide (k = 1), hits := g.hits + 1 }⟩, ⟨by omega, hgf, by show g.hits + 1 ≤ 2 * i + (k + 1); omega, ha2⟩, by show 1 - (k + 1) < 1 - k; omega, ?_, by (repeat' (first | exact trivial | exact wkE_refl _ | refine And.intro ?_ ?_))⟩
              (repeat' (first | exact trivial | refine And.intro (by with_reducible rfl) ?_ | (with_reducible exact wkC_refl _) | (with_reducible exact wkCs_refl _) | refine And.intro ?_ ?_))
              all_goals first | rfl | exact av_int (by rw [wrap_i64 (by omega)]; omega) | (congr 3; rw [Bool.eq_iff_iff, beq_iff_eq, decide_eq_true_eq]; omega)
      · have hk2 : k = 1 := by omega
        rw [hk2, List.drop_of_length_le (by rw [hfn]; exact Nat.le_refl _)] at hge
        rw [hit_step, ← hge] at he
        (first | refine wX ?_ | exact wZ)
        refine ⟨⟨i + 1, g⟩, ⟨by omega, hgf, by omega, he⟩, by show l.length - (i + 1) < l.length - i; omega, ?_, by (repeat' (first | exact trivial | exact wkE_refl _ | refine And.intro ?_ ?_))⟩
        (repeat' (first | exact trivial | refine And.intro (by with_reducible rfl) ?_ | (with_reducible exact wkC_refl _) | (with_reducible exact wkCs_refl _) | refine And.intro ?_ ?_))
        all_goals first | rfl | exact av_int (by rw [wrap_i64 (by omega)]; omega)
    | true =>
      ((conv => whnf); (repeat ((first | refine BoxN.own ?_ | refine VrN.norm (wrap_i64 (by omega)) ?_ | refine VrN.keep ?_ | refine DrawN.calm (by decide +kernel) ?_ | refine Nd.mk (by decide +kernel) ?_ | refine Nd.mk (by omega) ?_ | (refine Nd.mk ?_ ?_; focus ((repeat' (first | exact trivial | exact wkE_refl _ | refine And.intro ?_ ?_)); done)) | refine RdN.intro _ rfl (by rfl) ?_); (conv => whnf))))
      refine Nd.mk (by rw [hnz]; show 3 + _ < _; omega) ?_
      rw [show (⟨#[110, 111, 45]⟩ : ByteArray) = bs [110, 111, 45] from rfl, bs_app]
      (first | refine wX ?_ | exact wZ)
      try refine Nd.mk ⟨Nat.le_refl 1, rfl, rfl⟩ ?_
      (conv => whnf)
      refine AppN.grow 2 [.string (bs o.name)] [.string (bs ([110, 111, 45] ++ o.name))] rfl rfl ⟨Nat.le_refl 1, ⟨by decide, by decide⟩, Nat.one_ne_zero⟩ fun b1 c1 hc1 hc2 => ?_
      (first | refine wX ?_ | exact wZ)
      -- b1: the block of the forms, 2: their number, c1: the capacity
      have hfn : (formL i o).length = 2 := by simp [formL, h5]
      refine loopS (Nat × Hit) (fun ⟨k, g⟩ => k ≤ 2 ∧ g.full = none ∧ g.hits ≤ 2 * i + k ∧ foldF name ((formL i o).drop k) g = foldF name (formL i o) h) (fun ⟨k, g⟩ => mkS Tryz.f42.ntmps 0 [(0, .c (.v (.slice a l.length cap))), (1, .c (.v (.string (bs name)))), (4, .c (.v (.int .i64 0))), (5, .c (.v (.bool false))), (6, .c (.v (.int .i64 0))), (7, .c (.v (.int .i64 (g.at_ : Int)))), (8, .c (.v (.bool g.no))), (9, .c (.v (.int .i64 (g.hits : Int)))), (10, .c (.v (.int .i64 (i : Int)))), (15, .c (.v (.slice a l.length cap))), (16, .c (.v (.int .i64 (l.length : Int)))), (17, .c (.v (.int .i64 (i : Int)))), (34, .c (.v (.slice (some ⟨b1, 0, none⟩) 2 c1))), (35, .c (.v (.int .i64 2))), (36, .c (.v (.int .i64 (k : Int))))]) (fun ⟨k, _⟩ => 2 - k) rfl (fun _ => rfl) ⟨0, h⟩ ⟨Nat.zero_le _, hfull, by show h.hits ≤ 2 * i + 0; omega, rfl⟩ ?_ fun ⟨k, g⟩ ⟨hk, hgf, hgh, hge⟩ => ?_
      · (repeat' (first | exact trivial | refine And.intro (by with_reducible rfl) ?_ | (with_reducible exact wkC_refl _) | (with_reducible exact wkCs_refl _) | refine And.intro ?_ ?_))
        all_goals rfl
      (first | refine wX ?_ | exact wZ)
      refine brd_dec (fun h2 => ?_) (fun h2 => ?_)
      · obtain ⟨f, hf⟩ : ∃ f, (formL i o)[k]? = some f := ⟨_, List.getElem?_eq_getElem (by rw [hfn]; omega)⟩
        obtain ⟨hf1, hf2⟩ := form_get hf
        have hd := fold_drop name (formL i o) k hf g
        rw [hge] at hd
        have hcell : (.string (bs f.2.2) : Value) ∈ [(.string (bs f.2.2) : Value)] := List.mem_singleton.2 rfl
        (first | refine wX ?_ | exact wZ)
        try refine Nd.mk ⟨rfl, by omega, by omega⟩ ?_
        (first | refine wX ?_ | exact wZ)
        refine LdN.one (.string (bs f.2.2)) rfl (fun w hw => hw.2.1) (by
          rw [Int.toNat_natCast]
          rcases k with _ | _ | k
          · cases hf; rfl
          · first | (exfalso; omega) | (simp [formL, h5] at hf; subst hf; rfl)
          · omega) ?_
        (first | refine wX ?_ | exact wZ)
        rw [name_eq]
        cases hn : f.2.2 == name with
        | true =>
          have hst : form1 f.1 f.2.1 f.2.2 name g = { g with full := some (i, decide (k = 1)) } := by
            unfold form1
            rw [hgf, if_neg (by simp), if_pos hn, hf1, hf2]
          rw [hst, fold_done name ((formL i o).drop (k + 1)) { g with full := some (i, decide (k = 1)) } rfl] at hd
          rw [hit_step, hd, show hitS name (i + 1) (l.drop (i + 1)) { g with full := some (i, decide (k = 1)) } = { g with full := some (i, decide (k = 1)) } by rw [hitS_fold, fold_done _ _ _ rfl]] at he
          rw [find_val he]
          (first | refine wX ?_ | exact wZ)
          rw [show ((k : Int) == 1) = decide (k = 1) by rw [Bool.eq_iff_iff, beq_iff_eq, decide_eq_true_eq]; omega]
        | false =>
          have hgo : ∀ g', form1 f.1 f.2.1 f.2.2 name g = g' → g'.full = none ∧ foldF name ((formL i o).drop (k + 1)) g' = foldF name (formL i o) h := fun g' hg' => by
            rw [hg'] at hd
            refine ⟨?_, hd.symm⟩
            rw [← hg']
            unfold form1
            rw [hgf, if_neg (by simp), if_neg (by simp [hn])]
            split <;> first | rfl | exact hgf
          (first | refine wX ?_ | exact wZ)
          rw [show ((bs name).data.toList == (⟨#[]⟩ : ByteArray).data.toList) = (name == []) by rw [bs_list]]
          cases hne : name == [] with
          | true =>
            have hs : form1 f.1 f.2.1 f.2.2 name g = g := by
              unfold form1
              rw [hgf, if_neg (by simp), if_neg (by simp [hn]), if_neg (by rw [bne, hne]; simp)]
            obtain ⟨ha1, ha2⟩ := hgo g hs
            (first | refine wX ?_ | exact wZ)
            refine ⟨⟨k + 1, g⟩, ⟨by omega, ha1, by omega, ha2⟩, by show 2 - (k + 1) < 2 - k; omega, ?_, by (repeat' (first | exact trivial | exact wkE_refl _ | refine And.intro ?_ ?_))⟩
            (repeat' (first | exact trivial | refine And.intro (by with_reducible rfl) ?_ | (with_reducible exact wkC_refl _) | (with_reducible exact wkCs_refl _) | refine And.intro ?_ ?_))
            all_goals first | rfl | exact av_int (by rw [wrap_i64 (by omega)]; omega)
          | false =>
            (first | refine wX ?_ | exact wZ)
            refine call1 (HasPrefix_c f.2.2 name _) ?_
            cases hpf : name.isPrefixOf f.2.2 with
            | false =>
              have hs : form1 f.1 f.2.1 f.2.2 name g = g := by
                unfold form1
                rw [hgf, if_neg (by simp), if_neg (by simp [hn]), if_neg (by rw [hpf]; simp)]
              obtain ⟨ha1, ha2⟩ := hgo g hs
              (first | refine wX ?_ | exact wZ)
              refine ⟨⟨k + 1, g⟩, ⟨by omega, ha1, by omega, ha2⟩, by show 2 - (k + 1) < 2 - k; omega, ?_, by (repeat' (first | exact trivial | exact wkE_refl _ | refine And.intro ?_ ?_))⟩
              (repeat' (first | exact trivial | refine And.intro (by with_reducible rfl) ?_ | (with_reducible exact wkC_refl _) | (with_reducible exact wkCs_refl _) | refine And.intro ?_ ?_))
              all_goals first | rfl | exact av_int (by rw [wrap_i64 (by omega)]; omega)
            | true =>
              have hs : form1 f.1 f.2.1 f.2.2 name g = { g with at_ := i, no := decide (k = 1), hits := g.hits + 1 } := by
                unfold form1
                rw [hgf, if_neg (by simp), if_neg (by simp [hn]), if_pos (by rw [bne, hne, hpf]; rfl), hf1, hf2]
              obtain ⟨ha1, ha2⟩ := hgo _ hs
              (first | refine wX ?_ | exact wZ)
              refine ⟨⟨k + 1, { g with at_ := i, no := decide (k = 1), hits := g.hits + 1 }⟩, ⟨by omega, hgf, by show g.hits + 1 ≤ 2 * i + (k + 1); omega, ha2⟩, by show 2 - (k + 1) < 2 - k; omega, ?_, by (repeat' (first | exact trivial | exact wkE_refl _ | refine And.intro ?_ ?_))⟩
              (repeat' (first | exact trivial | refine And.intro (by with_reducible rfl) ?_ | (with_reducible exact wkC_refl _) | (with_reducible exact wkCs_refl _) | refine And.intro ?_ ?_))
              all_goals first | rfl | exact av_int (by rw [wrap_i64 (by omega)]; omega) | (congr 3; rw [Bool.eq_iff_iff, beq_iff_eq, decide_eq_true_eq]; omega)
      · have hk2 : k = 2 := by omega
        rw [hk2, List.drop_of_length_le (by rw [hfn]; exact Nat.le_refl _)] at hge
        rw [hit_step, ← hge] at he
        (first | refine wX ?_ | exact wZ)
        refine ⟨⟨i + 1, g⟩, ⟨by omega, hgf, by omega, he⟩, by show l.length - (i + 1) < l.length - i; omega, ?_, by (repeat' (first | exact trivial | exact wkE_refl _ | refine And.intro ?_ ?_))⟩
        (repeat' (first | exact trivial | refine And.intro (by with_reducible rfl) ?_ | (with_reducible exact wkC_refl _) | (with_reducible exact wkCs_refl _) | refine And.intro ?_ ?_))
        all_goals first | rfl | exact av_int (by rw [wrap_i64 (by omega)]; omega)
  · have hin : i = l.length := by omega
    subst hin
    rw [List.drop_of_length_le (Nat.le_refl _)] at he
    have he' : hitS name 0 l ⟨none, 0, false, 0⟩ = h := he
    rw [find_val he', hfull]
    (first | refine wX ?_ | exact wZ)
    refine brd_eq (fun h9 => ?_) (fun h9 => ?_)
    · (first | refine wX ?_ | exact wZ)
      rw [if_pos (by omega)]
      rfl
    · (first | refine wX ?_ | exact wZ)
      rw [if_neg (by omega)]
      refine brd_eq (fun h8 => ?_) (fun h8 => ?_)
      · (first | refine wX ?_ | exact wZ)
        rw [if_pos (by omega)]
      · (first | refine wX ?_ | exact wZ)
        rw [if_neg (by omega)]
        rfl
end Go.Proofs.YteljlkkppaobeaaGreatDoor

/-
  AX, thirty-ninth text: some of one's own entries are over: what they say becomes facts; the others stay.
-/
namespace Go.AX

end Go.AX

/-
  AX, forty-first text: at the end of a call two slices of the call's own change their places among the entries.
-/
namespace Go.AX

def isA : Option Ent → Bool
  | some (.app ..) => true
  | _ => false
/-- Two entries change places. -/
def swE (H : List Ent) (i j : Nat) : List Ent :=
  match nthE H i, nthE H j with
  | some e, some f => (H.set i f).set j e
  | _, _ => H
theorem Sat.swE {ρ : List Loc} {S : Nat → Prop} {H : List Ent} {w : World} (h : Sat ρ S H w) {i j : Nat} (hi : isA (nthE H i) = true) (hj : isA (nthE H j) = true) (hne : Nat.beq i j = false) : Sat ρ S (swE H i j) w ∧ Ev ρ S H w ρ S (swE H i j) w := by
  unfold AX.swE
  rw [nthE_eq] at hi hj ⊢
  rw [nthE_eq]
  cases hi' : H[i]? with
  | none => rw [hi'] at hi; cases hi
  | some e =>
    cases hj' : H[j]? with
    | none => rw [hj'] at hj; cases hj
    | some f =>
      rw [hi'] at hi
      rw [hj'] at hj
      cases e <;> first | (cases hi; done) | skip
      cases f <;> first | (cases hj; done) | skip
      exact h.swap hi' hj' (Nat.ne_of_beq_eq_false hne)
/-- A contract on own entries; at the end two of them may change places. -/
theorem ownX {P : Program} (hm : P.follows .mixedOrders = true) {f : FuncId} {fn : Func} {c : Code} (hf : P.funcs[f]? = some fn) (hn : (fn.name == "runtime.NumGoroutine") = false) (hb : fn.body = some c)
    {args : List AV} {H : List Ent} (hl : Nat.ble args.length fn.ntmps = true) {ι : Type} {inv : ι → Prop} {val : ι → Value} {G : ι → List Ent} (hok : ∀ i, inv i → okH (G i).length (G i)) (hl2 : ∀ i, inv i → H.length ≤ (G i).length)
    (h : initK fn.ntmps args fun s => exec P c s H (endK P fn.results.toList fun out H' => ∃ i, inv i ∧ out = .val (.c (.v (val i))) ∧ (wkH H' (G i) ∨ ∃ p q, isA (nthE H' p) = true ∧ isA (nthE H' q) = true ∧ Nat.beq p q = false ∧ wkH (swE H' p q) (G i)))) : SpecH P f args H (RetG inv val G) := by
  refine SpecH.wkG hok hl2 ?_
  have h0 := spec_of_exec hm hf hn hb hl h
  refine ⟨h0.ok, fun ρ S w vs hs hr => (h0.run ρ S w vs hs hr).mono fun e w' ⟨ρ', S', H', out, hs', hev, hout, i, hi, hx, hw⟩ => ?_⟩
  rcases hw with hw | ⟨p, q, hp, hq, hpq, hw⟩
  · exact ⟨ρ', S', H', out, hs', hev, hout, i, hi, hx, hw⟩
  · obtain ⟨h1, h2⟩ := hs'.swE hp hq hpq
    exact ⟨ρ', S', swE H' p q, out, h1, hev.trans h2, hout, i, hi, hx, hw⟩
/-- .. ahead of a store. -/
theorem EffW.swp {P : Program} {o : Oper} {s : List AV} {H : List Ent} {K : AV → List Ent → Prop} (p q : Nat) (hp : isA (nthE H p) = true) (hq : isA (nthE H q) = true) (hne : Nat.beq p q = false) (h : EffW P o s (swE H p q) K) : EffW P o s H K := by
  intro ρ S w a hs hr
  obtain ⟨h1, h2⟩ := hs.swE hp hq hne
  obtain ⟨av, H', hK, r, v, ρ', w', e1, e2, e3, e4, e5⟩ := h ρ S w a h1 hr
  exact ⟨av, H', hK, r, v, ρ', w', e1, e2, e3, h2.trans e4, e5⟩
end Go.AX

/-
  AX, twenty-sixth text: maps with numbers as keys that the call makes, fills and asks.
-/
namespace Go.AX

end Go.AX

/-
  AX, thirty-first text: a key that a map does not have.
-/
namespace Go.AX
/-! ### Parts of strings, where memory is not looked at -/
theorem BlindW.val {P : Program} {o : Oper} {s : List AV} {K : AV → Prop} (x : Value) (hp : allPlain s o.op.operands.toList = true) (hrun : ∀ w, (execOp (plainEv s) o).run P w = .ok (.value x) w) (h : K (.c (.v x))) : ∃ x, BlindW P o s K x := ⟨x, hp, hrun, h⟩
/-- s[i:] -/
theorem BlindW.sl_l {P : Program} {o : Oper} {s : List AV} {K : AV → Prop} {t : TypeId} {x y : Operand} {b : List UInt8} {k : IntKind} {i : Int} (n : Nat) (ho : o.op = .slice t x (some y) none none) (hu : P.underlying t = some .string) (hx : opv s x = .c (.v (.string (bs b)))) (hy : opv s y = .c (.v (.int k i)))
    (h : i = (n : Int) ∧ n ≤ b.length) (hk : K (.c (.v (.string (bs (b.drop n)))))) : ∃ x, BlindW P o s K x :=
  BlindW.val (.string (bs (b.drop n))) (by rw [ho]; show allPlain s [x, y] = true; simp [allPlain, hx, hy])
    (fun w => run_op_slice ho (by
      simp only [Option.map, plainEv_v hx, plainEv_v hy]
      rw [run_sliceAt_string w t _ _ _ _ hu, run_slice_string_l w t (bs b) hu k i (by omega) (by rw [bs_size]; omega), bs_size, show i.toNat = n by omega, bs_drop])) hk
/-- s[1:] -/
theorem BlindW.tl {P : Program} {o : Oper} {s : List AV} {K : AV → Prop} {t : TypeId} {x y : Operand} {c : UInt8} {r : List UInt8} {k : IntKind} (ho : o.op = .slice t x (some y) none none) (hu : P.underlying t = some .string) (hx : opv s x = .c (.v (.string (bs (c :: r))))) (hy : opv s y = .c (.v (.int k 1)))
    (hk : K (.c (.v (.string (bs r))))) : ∃ x, BlindW P o s K x := BlindW.sl_l 1 ho hu hx hy ⟨rfl, by simp⟩ hk
theorem ReadW.tl {P : Program} {o : Oper} {s : List AV} {H : List Ent} {K : AV → Prop} {t : TypeId} {x y : Operand} {c : UInt8} {r : List UInt8} {k : IntKind} (ho : o.op = .slice t x (some y) none none) (hu : P.underlying t = some .string) (hx : opv s x = .c (.v (.string (bs (c :: r))))) (hy : opv s y = .c (.v (.int k 1)))
    (hk : K (.c (.v (.string (bs r))))) : ReadW P o s H K := ReadW.sl_l 1 ho hu hx hy ⟨rfl, by simp⟩ hk
/-- s[:j] -/
theorem BlindW.sl_h {P : Program} {o : Oper} {s : List AV} {K : AV → Prop} {t : TypeId} {x y : Operand} {b : List UInt8} {k : IntKind} {i : Int} (n : Nat) (ho : o.op = .slice t x none (some y) none) (hu : P.underlying t = some .string) (hx : opv s x = .c (.v (.string (bs b)))) (hy : opv s y = .c (.v (.int k i)))
    (h : i = (n : Int) ∧ n ≤ b.length) (hk : K (.c (.v (.string (bs (b.take n)))))) : ∃ x, BlindW P o s K x :=
  BlindW.val (.string (bs (b.take n))) (by rw [ho]; show allPlain s [x, y] = true; simp [allPlain, hx, hy])
    (fun w => run_op_slice ho (by
      simp only [Option.map, plainEv_v hx, plainEv_v hy]
      rw [run_sliceAt_string w t _ _ _ _ hu, run_slice_string_h w t (bs b) hu k i (by omega) (by rw [bs_size]; omega), show i.toNat = n by omega, bs_take])) hk
end Go.AX

/-
  AX, thirty-second text: append(l, make([]byte, n)...): so many zeros onto a slice of bytes that grows.
-/
namespace Go.AX

end Go.AX

/-
  AX, thirty-third text: readings that are the same in all worlds of a kind.
-/
namespace Go.AX

theorem ReadC.load {P : Program} {C : World → Prop} {o : Oper} {s : List AV} {K : AV → Prop} {T : TypeId} {x : Operand} {p : Addr} (v : Value) (ho : o.op = .load T x) (hx : opv s x = .c (.v (.pointer (some p)))) (hF : ∀ w, C w → (loadVar T p).run P w = .ok v w) (hk : K (.c (.v v))) : ∃ x, ReadC P C o s K x :=
  ⟨v, fun cs b e => (by rw [ho] at e; cases e), by rw [ho]; show allPlain s [x] = true; simp [allPlain, hx], fun w hw => by
    have hx2 : plainEv s x = .pointer (some p) := by unfold plainEv; rw [hx]
    unfold execOp
    simp [ho, hx2, Instr.loadAt, Instr.sureAddr, hF w hw], hk⟩
/-- A load of one cell. -/
theorem ReadC.one {P : Program} {C : World → Prop} {o : Oper} {s : List AV} {K : AV → Prop} {T : TypeId} {x : Operand} {a : Option Addr} {q k : Nat} {xs : List Value} (v : Value) (ho : o.op = .load T x) (hx : opv s x = .c (.v (.pointer (some (elemAddr a q))))) (hT : shapeT P T = some none)
    (hF : ∀ w, C w → SlAt a k xs w) (hv : xs[q]? = some v) (hk : K (.c (.v v))) : ∃ x, ReadC P C o s K x :=
  ReadC.load v ho hx (fun w hw => loadVar_cell hT ((hF w hw).cell hv)) hk
/-- A load of a struct. -/
theorem ReadC.agg {P : Program} {C : World → Prop} {o : Oper} {s : List AV} {K : AV → Prop} {T : TypeId} {x : Operand} {a : Option Addr} {q n k : Nat} {xs : List Value} (ys : List Value) (ho : o.op = .load T x) (hx : opv s x = .c (.v (.pointer (some (elemAddr a q))))) (hT : shapeT P T = some (some n))
    (hF : ∀ w, C w → SlAt a k xs w) (hl : ys.length = n) (hv : ∀ j, j < n → xs[q + j]? = ys[j]?) (hk : K (.c (.v (.agg ys.toArray)))) : ∃ x, ReadC P C o s K x :=
  ReadC.load (.agg ys.toArray) ho hx (fun w hw => loadVar_cells hT hl fun j v hj => by
    have hjn : j < n := by rw [← hl]; exact (List.getElem?_eq_some_iff.1 hj).1
    rw [elemAddr, Addr.add_add]
    exact (hF w hw).cell ((hv j hjn).trans hj)) hk
theorem ReadC.nil {P : Program} {C : World → Prop} {o : Oper} {s : List AV} {K : AV → Prop} {x : Operand} {p : Addr} (ho : o.op = .nilCheck x) (hx : opv s x = .c (.v (.pointer (some p)))) (hk : K (.c (.v (.pointer (some p))))) : ∃ x, ReadC P C o s K x :=
  ⟨.pointer (some p), fun cs b e => (by rw [ho] at e; cases e), by rw [ho]; show allPlain s [x] = true; simp [allPlain, hx], fun w _ => by
    have hx2 : plainEv s x = .pointer (some p) := by unfold plainEv; rw [hx]
    unfold execOp
    simp [ho, hx2], hk⟩
end Go.AX

/-
  AX, fortieth text: the address of an element, in a drawing region.
-/
namespace Go.AX
/-- The address of an element of a slice at a known block. -/
theorem ReadC.idx {P : Program} {C : World → Prop} {o : Oper} {s : List AV} {K : AV → Prop} {T e : TypeId} {inf : TypeInfo} {x i : Operand} {b n cap sz : Nat} {kk : IntKind} (k : Nat) (ho : o.op = .indexAddr T x i) (hu : P.underlying T = some (.slice e)) (hi : P.info? e = some inf) (hsz : inf.size = sz)
    (hx : opv s x = .c (.v (.slice (some ⟨b, 0, none⟩) n cap))) (hy : opv s i = .c (.v (.int kk (k : Int)))) (hk : k < n) (next : K (.c (.v (.pointer (some ⟨b, k * sz, none⟩))))) : ∃ x, ReadC P C o s K x :=
  ⟨.pointer (some ⟨b, k * sz, none⟩), fun cs b e => (by rw [ho] at e; cases e), by rw [ho]; show allPlain s [x, i] = true; simp [allPlain, hx, hy], fun w _ => by
    have hx2 : plainEv s x = .slice (some ⟨b, 0, none⟩) n cap := by unfold plainEv; rw [hx]
    have hy2 : plainEv s i = .int kk (k : Int) := by unfold plainEv; rw [hy]
    have h := run_indexAt (P := P) hu hi w ⟨b, 0, none⟩ n cap kk (k : Int) ⟨by omega, by omega⟩
    rw [Int.toNat_natCast, hsz, add_lit0] at h
    exact execOp_indexAddr ho (by rw [hx2, hy2]; exact h), next⟩
/-- The address of a field of a struct at a known block. -/
theorem ReadC.field {P : Program} {C : World → Prop} {o : Oper} {s : List AV} {K : AV → Prop} {T : TypeId} {x : Operand} {b q f : Nat} (fo : Nat) (ho : o.op = .fieldAddr T x f) (hx : opv s x = .c (.v (.pointer (some ⟨b, q, none⟩)))) (hf : fieldOff P T f = some fo) (next : K (.c (.v (.pointer (some ⟨b, q + fo, none⟩))))) : ∃ x, ReadC P C o s K x :=
  ⟨.pointer (some ⟨b, q + fo, none⟩), fun cs b e => (by rw [ho] at e; cases e), by rw [ho]; show allPlain s [x] = true; simp [allPlain, hx], fun w _ => by
    have hx2 : plainEv s x = .pointer (some ⟨b, q, none⟩) := by unfold plainEv; rw [hx]
    have h := fieldOff_spec (P := P) hf w ⟨b, q, none⟩
    rw [add_lit] at h
    unfold execOp
    simp only [ho, hx2, Sem.run_bind, h, Result.andThen_ok, Sem.run_pure], next⟩
end Go.AX

/-
  Contracts: the reader in memory; next, give (program).
-/
namespace Go.Proofs.YteljlkkppaobeaaGreatDoor
open Go.AX Go.RowKit Go.Opts
set_option maxRecDepth 20000

/-- A slice of texts in memory. -/
structure VL where
  xs : List (List UInt8)
  a : Option Nat
  c : Nat
def vlV (v : VL) : Value := .slice (at0 v.a) v.xs.length v.c
def vlE (v : VL) : Ent := .app 9 1 (strC v.xs) (at0 v.a) v.xs.length v.c
/-- Where the reader lies, its options and words. -/
structure RL where
  rb : Nat
  la : Option Addr
  lc : Nat
  wa : Option Addr
  wc : Nat
  vb : Nat
  gb : Nat
def rC (R : RL) (n m at_ : Nat) (left : VL) : List Value := [.slice R.la n R.lc, .slice R.wa m R.wc, .int .i64 (at_ : Int), .slice (some ⟨R.vb, 0, none⟩) n n, .slice (some ⟨R.gb, 0, none⟩) n n, vlV left]
def rE (R : RL) (n m at_ : Nat) (left : VL) : Ent := .app 51 6 (rC R n m at_ left) (some ⟨R.rb, 0, none⟩) 1 1
def vC (n : Nat) (v : Nat → VL) : List Value := (List.range n).map fun j => vlV (v j)
def vE (R : RL) (n : Nat) (v : Nat → VL) : Ent := .app 22 1 (vC n v) (some ⟨R.vb, 0, none⟩) n n
def gC (g : List Int) : List Value := g.map fun x => .int .i64 x
def gE (R : RL) (n : Nat) (g : List Int) : Ent := .app 3 1 (gC g) (some ⟨R.gb, 0, none⟩) n n
def RdF (R : RL) (l : List Opt) (W : List (List UInt8)) (w : World) : Prop := SlAt R.la (l.length * 5) (optsC l) w ∧ SlAt R.wa W.length (strC W) w ∧ MaxF w
def rdH (R : RL) (l : List Opt) (W : List (List UInt8)) (at_ : Nat) (v : Nat → VL) (g : List Int) (left : VL) : List Ent :=
  [.fact (RdF R l W), rE R l.length W.length at_ left, vE R l.length v, gE R l.length g, vlE left, vlE (v 0), vlE (v 1), vlE (v 2), vlE (v 3), vlE (v 4), vlE (v 5), vlE (v 6), vlE (v 7)]
theorem strC_get {l : List (List UInt8)} {i : Nat} {s : List UInt8} (h : l[i]? = some s) : (strC l)[i]? = some (.string (bs s)) := by
  unfold strC; rw [List.getElem?_map, h]; rfl
theorem strC_snoc (l : List (List UInt8)) (s : List UInt8) : strC l ++ [.string (bs s)] = strC (l ++ [s]) := by simp [strC]
theorem vC_get {n i : Nat} (v : Nat → VL) (h : i < n) : (vC n v)[i]? = some (vlV (v i)) := by
  unfold vC; rw [List.getElem?_map, List.getElem?_range h]; rfl
theorem vC_len (n : Nat) (v : Nat → VL) : (vC n v).length = n := by simp [vC]
theorem vC_set {n i : Nat} (v : Nat → VL) (x : VL) (h : i < n) : (vC n v).take i ++ [vlV x] ++ (vC n v).drop (i + 1) = vC n (upd v i x) := by
  rw [show (vC n v).drop (i + 1) = (vC n v).drop (i + [vlV x].length) from rfl, put_set _ (by rw [vC_len]; exact h)]
  apply List.ext_getElem?
  intro j
  rw [List.getElem?_set]
  by_cases hj : i = j
  · subst hj
    rw [if_pos rfl, if_pos (by rw [vC_len]; exact h), vC_get _ h]
    simp [upd]
  · rw [if_neg hj]
    unfold vC
    rw [List.getElem?_map, List.getElem?_map]
    cases hr : (List.range n)[j]? with
    | none => rfl
    | some k =>
      have hk : k = j := by
        have := List.getElem?_eq_some_iff.1 hr
        obtain ⟨h1, h2⟩ := this
        rw [List.getElem_range] at h2
        exact h2.symm
      subst hk
      simp only [Option.map_some, upd]
      rw [show Nat.beq k i = false by rw [Bool.eq_false_iff]; intro h; exact hj (Nat.eq_of_beq_eq_true h).symm]
      rfl
theorem gC_get {g : List Int} {i : Nat} (h : i < g.length) : (gC g)[i]? = some (.int .i64 (g.getD i 0)) := by
  unfold gC; rw [List.getElem?_map, List.getElem?_eq_getElem h, List.getD_eq_getElem?_getD, List.getElem?_eq_getElem h]; rfl
theorem gC_set {g : List Int} {i : Nat} (x : Int) (h : i < g.length) : (gC g).take i ++ [.int .i64 x] ++ (gC g).drop (i + 1) = gC (g.set i x) := by
  rw [show (gC g).drop (i + 1) = (gC g).drop (i + [Value.int .i64 x].length) from rfl, put_set _ (by simpa [gC] using h)]
  simp [gC, List.map_set]
def nextV (r : Option (List UInt8)) : Value := .tuple #[.string (bs (r.getD [])), .bool r.isSome]
theorem next_c (R : RL) (l : List Opt) (W : List (List UInt8)) (at_ : Nat) (left : VL) (any : Bool) (hat : at_ ≤ W.length) (hW : W.length ≤ 100000) (hwa : R.wa = none → W = []) :
    SpecH Tryz.prog 65 [.c (.v (.pointer (some ⟨R.rb, 0, none⟩))), .c (.v (.bool any))] [.fact (RdF R l W), rE R l.length W.length at_ left]
      (RetG (ι := Unit) (fun _ => True) (fun _ => nextV (nextS W at_ any)) fun _ => [.fact (RdF R l W), rE R l.length W.length (if (nextS W at_ any).isSome then at_ + 1 else at_) left]) := by
  refine ownC hm Tryz.func65 (by kernel_rfl) rfl rfl (fun _ _ => okHB_eq rfl) (fun _ _ => Nat.le_refl _) ?_
  (first | refine wX ?_ | exact wZ)
  -- 2: the field, .int .i64 (at_ : Int): the value
  refine LdN.one (a := some ⟨R.rb, 0, none⟩) (q := 2) (.int .i64 (at_ : Int)) rfl (fun w hw => hw.2.1) rfl ?_
  (first | refine wX ?_ | exact wZ)
  -- 1: the field, .slice R.wa W.length R.wc: the value
  refine LdN.one (a := some ⟨R.rb, 0, none⟩) (q := 1) (.slice R.wa W.length R.wc) rfl (fun w hw => hw.2.1) rfl ?_
  (first | refine wX ?_ | exact wZ)
  refine brd_eq (fun h1 => ?_) (fun h1 => ?_)
  · have hn : nextS W at_ any = none := by
      unfold nextS
      rw [List.getElem?_eq_none (by omega)]
    rw [hn]
    (first | refine wX ?_ | exact wZ)
    exact ⟨(), trivial, rfl, wkE_refl _, wkE_refl _, wkH_nil _⟩
  · obtain ⟨s, hs⟩ : ∃ s, W[at_]? = some s := ⟨_, List.getElem?_eq_getElem (by omega)⟩
    have hsa : R.wa.isSome = true := by
      cases hr : R.wa with
      | none => rw [hwa hr] at hs; cases hs
      | some b => rfl
    have hw1 : IntKind.i64.wrap (((at_ + 1 : Nat) : Int) - 1) = (at_ : Int) := by rw [wrap_i64 (by omega)]; omega
    cases any with
    | true =>
      have hn : nextS W at_ true = some s := by unfold nextS; rw [hs]; rfl
      rw [hn]
      (first | refine wX ?_ | exact wZ)
      -- 2: the field, .int .i64 (at_ : Int): the value
      refine LdN.one (a := some ⟨R.rb, 0, none⟩) (q := 2) (.int .i64 (at_ : Int)) rfl (fun w hw => hw.2.1) rfl ?_
      (first | refine wX ?_ | exact wZ)
      refine EffW.appTo (i := 1) (q := 2) (ys := [_]) (rC R l.length W.length (at_ + 1) left) 6 rfl rfl rfl rfl rfl rfl rfl (Nat.le_of_ble_eq_true rfl) (by
        show [_, _, Value.int .i64 _, _, _, _] = [_, _, Value.int .i64 _, _, _, _]
        rw [wrap_i64 (by omega)]
        rfl) rfl ?_
      (first | refine wX ?_ | exact wZ)
      -- 1: the field, .slice R.wa W.length R.wc: the value
      refine LdN.one (a := some ⟨R.rb, 0, none⟩) (q := 1) (.slice R.wa W.length R.wc) rfl (fun w hw => hw.2.1) rfl ?_
      (first | refine wX ?_ | exact wZ)
      -- 2: the field, .int .i64 ((at_ + 1 : Nat) : Int): the value
      refine LdN.one (a := some ⟨R.rb, 0, none⟩) (q := 2) (.int .i64 ((at_ + 1 : Nat) : Int)) rfl (fun w hw => hw.2.1) rfl ?_
      (first | refine wX ?_ | exact wZ)
      rw [hw1]
      refine Nd.mk ⟨hsa, by omega, by omega⟩ ?_
      (first | refine wX ?_ | exact wZ)
      refine LdN.one (.string (bs s)) rfl (fun w hw => hw.1.2.1) (by rw [Int.toNat_natCast]; show (strC W)[at_ * 1]? = _; rw [Nat.mul_one]; exact strC_get hs) ?_
      (first | refine wX ?_ | exact wZ)
      exact ⟨(), trivial, rfl, wkE_refl _, wkE_refl _, wkH_nil _⟩
    | false =>
      (first | refine wX ?_ | exact wZ)
      -- 1: the field, .slice R.wa W.length R.wc: the value
      refine LdN.one (a := some ⟨R.rb, 0, none⟩) (q := 1) (.slice R.wa W.length R.wc) rfl (fun w hw => hw.2.1) rfl ?_
      (first | refine wX ?_ | exact wZ)
      -- 2: the field, .int .i64 (at_ : Int): the value
      refine LdN.one (a := some ⟨R.rb, 0, none⟩) (q := 2) (.int .i64 (at_ : Int)) rfl (fun w hw => hw.2.1) rfl ?_
      (first | refine wX ?_ | exact wZ)
      refine Nd.mk ⟨hsa, by omega, by omega⟩ ?_
      (first | refine wX ?_ | exact wZ)
      refine LdN.one (.string (bs s)) rfl (fun w hw => hw.1.2.1) (by rw [Int.toNat_natCast]; show (strC W)[at_ * 1]? = _; rw [Nat.mul_one]; exact strC_get hs) ?_
      (first | refine wX ?_ | exact wZ)
      refine callQ (HasPrefix_c s [45] _) ?_
      cases hp : ([45] : List UInt8).isPrefixOf s with
      | true =>
        have hn : nextS W at_ false = none := by unfold nextS; rw [hs]; simp [hp]
        rw [hn]
        (first | refine wX ?_ | exact wZ)
        exact ⟨(), trivial, rfl, wkE_refl _, wkE_refl _, wkH_nil _⟩
      | false =>
        have hn : nextS W at_ false = some s := by unfold nextS; rw [hs]; simp [hp]
        rw [hn]
        (first | refine wX ?_ | exact wZ)
        -- 2: the field, .int .i64 (at_ : Int): the value
        refine LdN.one (a := some ⟨R.rb, 0, none⟩) (q := 2) (.int .i64 (at_ : Int)) rfl (fun w hw => hw.2.1) rfl ?_
        (first | refine wX ?_ | exact wZ)
        refine EffW.appTo (i := 1) (q := 2) (ys := [_]) (rC R l.length W.length (at_ + 1) left) 6 rfl rfl rfl rfl rfl rfl rfl (Nat.le_of_ble_eq_true rfl) (by
          show [_, _, Value.int .i64 _, _, _, _] = [_, _, Value.int .i64 _, _, _, _]
          rw [wrap_i64 (by omega)]
          rfl) rfl ?_
        (first | refine wX ?_ | exact wZ)
        -- 1: the field, .slice R.wa W.length R.wc: the value
        refine LdN.one (a := some ⟨R.rb, 0, none⟩) (q := 1) (.slice R.wa W.length R.wc) rfl (fun w hw => hw.2.1) rfl ?_
        (first | refine wX ?_ | exact wZ)
        -- 2: the field, .int .i64 ((at_ + 1 : Nat) : Int): the value
        refine LdN.one (a := some ⟨R.rb, 0, none⟩) (q := 2) (.int .i64 ((at_ + 1 : Nat) : Int)) rfl (fun w hw => hw.2.1) rfl ?_
        (first | refine wX ?_ | exact wZ)
        rw [hw1]
        refine Nd.mk ⟨hsa, by omega, by omega⟩ ?_
        (first | refine wX ?_ | exact wZ)
        refine LdN.one (.string (bs s)) rfl (fun w hw => hw.1.2.1) (by rw [Int.toNat_natCast]; show (strC W)[at_ * 1]? = _; rw [Nat.mul_one]; exact strC_get hs) ?_
        (first | refine wX ?_ | exact wZ)
        exact ⟨(), trivial, rfl, wkE_refl _, wkE_refl _, wkH_nil _⟩
end Go.Proofs.YteljlkkppaobeaaGreatDoor

/-
  Contract: give (program).
-/
namespace Go.Proofs.YteljlkkppaobeaaGreatDoor
open Go.AX Go.RowKit Go.Opts
set_option maxRecDepth 20000

def psOf (at_ : Nat) (v : Nat → VL) (g : List Int) (left : VL) : PS := ⟨at_, fun j => (v j).xs, g, left.xs⟩
theorem upd_xs (v : Nat → VL) (i : Nat) (x : VL) (j : Nat) : (upd v i x j).xs = upd (fun j => (v j).xs) i x.xs j := by
  unfold upd
  cases Nat.beq j i <;> rfl
set_option maxHeartbeats 4000000 in
theorem give_c (R : RL) (l : List Opt) (W : List (List UInt8)) (at_ : Nat) (v : Nat → VL) (g : List Int) (left : VL) (i : Nat) (no : Bool) (value : List UInt8) (has : Bool) (o : Opt) (ho : l[i]? = some o) (hk : 0 ≤ o.kind ∧ o.kind ≤ 5) (hn8 : l.length ≤ 8) (hg : g.length = l.length) (hat : at_ ≤ W.length) (hW : W.length ≤ 100000) (hwa : R.wa = none → W = []) (hla : R.la = none → l = []) (hv : (v i).xs.length ≤ 1000000) :
    SpecH Tryz.prog 43 [.c (.v (.pointer (some ⟨R.rb, 0, none⟩))), .c (.v (.int .i64 (i : Int))), .c (.v (.bool no)), .c (.v (.string (bs value))), .c (.v (.bool has))] (rdH R l W at_ v g left)
      (RetG (ι := Nat → VL) (fun v' => ∀ j, (v' j).xs = (giveS l W i no value has (psOf at_ v g left)).1.vals j) (fun _ => .int .i64 (giveS l W i no value has (psOf at_ v g left)).2)
        fun v' => rdH R l W (giveS l W i no value has (psOf at_ v g left)).1.at_ v' (giveS l W i no value has (psOf at_ v g left)).1.given left) := by
  refine ownX hm Tryz.func43 (by kernel_rfl) rfl rfl (fun _ _ => okHB_eq rfl) (fun _ _ => Nat.le_refl _) ?_
  have hil : i < l.length := (List.getElem?_eq_some_iff.1 ho).1
  have hgi := gC_get (g := g) (i := i) (by omega)
  have hsa : R.la.isSome = true := by
    cases hr : R.la with
    | none => rw [hla hr] at ho; cases ho
    | some b => rfl
  have hkf : (optsC l)[i * 5 + 2]? = some (.int .i64 o.kind) := (optsC_get l i 2 (by decide) ho).trans rfl
  have hkA : kindAt l i = o.kind := by unfold kindAt; rw [ho]
  unfold giveS
  rw [hkA]
  generalize o.kind = k at *
  have hk6 : k = 0 ∨ k = 1 ∨ k = 2 ∨ k = 3 ∨ k = 4 ∨ k = 5 := by omega
  (first | refine wX ?_ | exact wZ)
  -- 0: the field, .slice R.la l.length R.lc: the value
  refine LdN.one (a := some ⟨R.rb, 0, none⟩) (q := 0) (.slice R.la l.length R.lc) rfl (fun w hw => hw.2.1) rfl ?_
  (first | refine wX ?_ | exact wZ)
  refine Nd.mk ⟨hsa, by omega, by omega⟩ ?_
  (first | refine wX ?_ | exact wZ)
  refine LdN.fld (.int .i64 k) rfl (fun w hw => hw.1.1) (by rw [Int.toNat_natCast]; exact hkf) ?_
  rcases hk6 with rfl | rfl | rfl | rfl | rfl | rfl
  · cases has with
    | true =>
      have hG : giveK W 0 i no value true (psOf at_ v g left) = (psOf at_ v g left, 4) := rfl
      rw [hG]
      -- nothing is changed
      (first | refine wX ?_ | exact wZ)
      exact ⟨v, fun _ => rfl, rfl, .inl ⟨wkE_refl _, wkE_refl _, wkE_refl _, wkE_refl _, wkE_refl _, wkE_refl _, wkE_refl _, wkE_refl _, wkE_refl _, wkE_refl _, wkE_refl _, wkE_refl _, wkE_refl _, wkH_nil _⟩⟩
    | false =>
      have hG : giveK W 0 i no value false (psOf at_ v g left) = (⟨at_, upd (fun j => (v j).xs) i [if no then falseL else trueL], g.set i (IntKind.i64.wrap (g.getD i 0 + 1)), left.xs⟩, 0) := rfl
      rw [hG]
      (first | refine wX ?_ | exact wZ)
      -- 4: the field, .slice (some ⟨R.gb, 0, none⟩) l.length l.length: the value
      refine LdN.one (a := some ⟨R.rb, 0, none⟩) (q := 4) (.slice (some ⟨R.gb, 0, none⟩) l.length l.length) rfl (fun w hw => hw.2.1) rfl ?_
      (first | refine wX ?_ | exact wZ)
      try refine Nd.mk ⟨rfl, by omega, by omega⟩ ?_
      (first | refine wX ?_ | exact wZ)
      refine LdN.one (.int .i64 (g.getD i 0)) rfl (fun w hw => hw.2.2.2.1) (by rw [Int.toNat_natCast]; show (gC g)[i * 1]? = _; rw [Nat.mul_one]; exact hgi) ?_
      (first | refine wX ?_ | exact wZ)
      try refine Nd.mk ⟨rfl, by omega, by omega⟩ ?_
      (first | refine wX ?_ | exact wZ)
      refine EffW.appTo (i := 3) (q := i) (ys := [.int .i64 (IntKind.i64.wrap (g.getD i 0 + 1))]) (gC (g.set i (IntKind.i64.wrap (g.getD i 0 + 1)))) 1 rfl
        (by rw [Int.toNat_natCast]; show AV.c (CV.v (Value.pointer (some ((⟨R.gb, 0, none⟩ : Addr).add (i * 1))))) = _; rw [add_lit0, Nat.mul_one]) rfl rfl rfl rfl rfl (by show i + 1 ≤ l.length * 1; omega) (gC_set _ (by omega)) rfl ?_
      cases no with
      | true =>
        -- falseL: the text; the new slice is known
        (first | refine wX ?_ | exact wZ)
        -- 3: the field, .slice (some ⟨R.vb, 0, none⟩) l.length l.length: the value
        refine LdN.one (a := some ⟨R.rb, 0, none⟩) (q := 3) (.slice (some ⟨R.vb, 0, none⟩) l.length l.length) rfl (fun w hw => hw.2.1) rfl ?_
        ((conv => whnf); (repeat ((first | refine BoxN.own ?_ | refine VrN.norm (wrap_i64 (by omega)) ?_ | refine VrN.keep ?_ | refine DrawN.calm (by decide +kernel) ?_ | refine Nd.mk (by decide +kernel) ?_ | refine Nd.mk (by omega) ?_ | (refine Nd.mk ?_ ?_; focus ((repeat' (first | exact trivial | exact wkE_refl _ | refine And.intro ?_ ?_)); done)) | refine RdN.intro _ rfl (by rfl) ?_); (conv => whnf))))
        refine RwN.known [_] rfl fun nb => ?_
        (first | refine wX ?_ | exact wZ)
        try refine Nd.mk ⟨rfl, by omega, by omega⟩ ?_
        (first | refine wX ?_ | exact wZ)
        refine EffW.appTo (i := 2) (q := i) (ys := [vlV ⟨[falseL], some nb, 1⟩]) (vC l.length (upd v i ⟨[falseL], some nb, 1⟩)) 1 rfl
          (by rw [Int.toNat_natCast]; show AV.c (CV.v (Value.pointer (some ((⟨R.vb, 0, none⟩ : Addr).add (i * 1))))) = _; rw [add_lit0, Nat.mul_one]) rfl rfl rfl rfl rfl (by show i + 1 ≤ l.length * 1; omega) (vC_set v _ hil) rfl ?_
        (first | refine wX ?_ | exact wZ)
        refine ⟨upd v i ⟨[falseL], some nb, 1⟩, fun j => upd_xs v i _ j, rfl, .inr ⟨5 + i, 13, ?_⟩⟩
        have hi8 : i < 8 := by omega
        clear hgi ho hil
        rcases i with _ | _ | _ | _ | _ | _ | _ | _ | i <;> first | exact ⟨rfl, rfl, rfl, wkE_refl _, wkE_refl _, wkE_refl _, wkE_refl _, wkE_refl _, wkE_refl _, wkE_refl _, wkE_refl _, wkE_refl _, wkE_refl _, wkE_refl _, wkE_refl _, wkE_refl _, wkH_nil _⟩ | omega
      | false =>
        -- trueL: the text; the new slice is known
        (first | refine wX ?_ | exact wZ)
        -- 3: the field, .slice (some ⟨R.vb, 0, none⟩) l.length l.length: the value
        refine LdN.one (a := some ⟨R.rb, 0, none⟩) (q := 3) (.slice (some ⟨R.vb, 0, none⟩) l.length l.length) rfl (fun w hw => hw.2.1) rfl ?_
        ((conv => whnf); (repeat ((first | refine BoxN.own ?_ | refine VrN.norm (wrap_i64 (by omega)) ?_ | refine VrN.keep ?_ | refine DrawN.calm (by decide +kernel) ?_ | refine Nd.mk (by decide +kernel) ?_ | refine Nd.mk (by omega) ?_ | (refine Nd.mk ?_ ?_; focus ((repeat' (first | exact trivial | exact wkE_refl _ | refine And.intro ?_ ?_)); done)) | refine RdN.intro _ rfl (by rfl) ?_); (conv => whnf))))
        refine RwN.known [_] rfl fun nb => ?_
        (first | refine wX ?_ | exact wZ)
        try refine Nd.mk ⟨rfl, by omega, by omega⟩ ?_
        (first | refine wX ?_ | exact wZ)
        refine EffW.appTo (i := 2) (q := i) (ys := [vlV ⟨[trueL], some nb, 1⟩]) (vC l.length (upd v i ⟨[trueL], some nb, 1⟩)) 1 rfl
          (by rw [Int.toNat_natCast]; show AV.c (CV.v (Value.pointer (some ((⟨R.vb, 0, none⟩ : Addr).add (i * 1))))) = _; rw [add_lit0, Nat.mul_one]) rfl rfl rfl rfl rfl (by show i + 1 ≤ l.length * 1; omega) (vC_set v _ hil) rfl ?_
        (first | refine wX ?_ | exact wZ)
        refine ⟨upd v i ⟨[trueL], some nb, 1⟩, fun j => upd_xs v i _ j, rfl, .inr ⟨5 + i, 13, ?_⟩⟩
        have hi8 : i < 8 := by omega
        clear hgi ho hil
        rcases i with _ | _ | _ | _ | _ | _ | _ | _ | i <;> first | exact ⟨rfl, rfl, rfl, wkE_refl _, wkE_refl _, wkE_refl _, wkE_refl _, wkE_refl _, wkE_refl _, wkE_refl _, wkE_refl _, wkE_refl _, wkE_refl _, wkE_refl _, wkE_refl _, wkE_refl _, wkH_nil _⟩ | omega
  · -- 1: the kind; two goals stay: with a value, without
    (first | refine wX ?_ | exact wZ)
    -- 4: the field, .slice (some ⟨R.gb, 0, none⟩) l.length l.length: the value
    refine LdN.one (a := some ⟨R.rb, 0, none⟩) (q := 4) (.slice (some ⟨R.gb, 0, none⟩) l.length l.length) rfl (fun w hw => hw.2.1) rfl ?_
    (first | refine wX ?_ | exact wZ)
    try refine Nd.mk ⟨rfl, by omega, by omega⟩ ?_
    (first | refine wX ?_ | exact wZ)
    refine LdN.one (.int .i64 (g.getD i 0)) rfl (fun w hw => hw.2.2.2.1) (by rw [Int.toNat_natCast]; show (gC g)[i * 1]? = _; rw [Nat.mul_one]; exact hgi) ?_
    (first | refine wX ?_ | exact wZ)
    refine brd_dec (fun h7 => ?_) (fun h7 => ?_)
    · have hG : giveK W 1 i no value has (psOf at_ v g left) = (psOf at_ v g left, 7) := by
        unfold giveK
        rw [show (psOf at_ v g left).given.getD i 0 = g.getD i 0 from rfl, decide_eq_true h7]
        rfl
      rw [hG]
      -- nothing is changed
      (first | refine wX ?_ | exact wZ)
      exact ⟨v, fun _ => rfl, rfl, .inl ⟨wkE_refl _, wkE_refl _, wkE_refl _, wkE_refl _, wkE_refl _, wkE_refl _, wkE_refl _, wkE_refl _, wkE_refl _, wkE_refl _, wkE_refl _, wkE_refl _, wkE_refl _, wkH_nil _⟩⟩
    cases has
    rotate_left
    · have hG : giveK W 1 i no value true (psOf at_ v g left) = (⟨at_, upd (fun j => (v j).xs) i [value], g.set i (IntKind.i64.wrap (g.getD i 0 + 1)), left.xs⟩, 0) := by
        unfold giveK
        rw [show (psOf at_ v g left).given.getD i 0 = g.getD i 0 from rfl, decide_eq_false h7]
        rfl
      rw [hG]
      (first | refine wX ?_ | exact wZ)
      -- 4: the field, .slice (some ⟨R.gb, 0, none⟩) l.length l.length: the value
      refine LdN.one (a := some ⟨R.rb, 0, none⟩) (q := 4) (.slice (some ⟨R.gb, 0, none⟩) l.length l.length) rfl (fun w hw => hw.2.1) rfl ?_
      (first | refine wX ?_ | exact wZ)
      try refine Nd.mk ⟨rfl, by omega, by omega⟩ ?_
      (first | refine wX ?_ | exact wZ)
      refine LdN.one (.int .i64 (g.getD i 0)) rfl (fun w hw => hw.2.2.2.1) (by rw [Int.toNat_natCast]; show (gC g)[i * 1]? = _; rw [Nat.mul_one]; exact hgi) ?_
      (first | refine wX ?_ | exact wZ)
      try refine Nd.mk ⟨rfl, by omega, by omega⟩ ?_
      (first | refine wX ?_ | exact wZ)
      refine EffW.appTo (i := 3) (q := i) (ys := [.int .i64 (IntKind.i64.wrap (g.getD i 0 + 1))]) (gC (g.set i (IntKind.i64.wrap (g.getD i 0 + 1)))) 1 rfl
        (by rw [Int.toNat_natCast]; show AV.c (CV.v (Value.pointer (some ((⟨R.gb, 0, none⟩ : Addr).add (i * 1))))) = _; rw [add_lit0, Nat.mul_one]) rfl rfl rfl rfl rfl (by show i + 1 ≤ l.length * 1; omega) (gC_set _ (by omega)) rfl ?_
      -- value: the text; the new slice is known
      (first | refine wX ?_ | exact wZ)
      -- 3: the field, .slice (some ⟨R.vb, 0, none⟩) l.length l.length: the value
      refine LdN.one (a := some ⟨R.rb, 0, none⟩) (q := 3) (.slice (some ⟨R.vb, 0, none⟩) l.length l.length) rfl (fun w hw => hw.2.1) rfl ?_
      ((conv => whnf); (repeat ((first | refine BoxN.own ?_ | refine VrN.norm (wrap_i64 (by omega)) ?_ | refine VrN.keep ?_ | refine DrawN.calm (by decide +kernel) ?_ | refine Nd.mk (by decide +kernel) ?_ | refine Nd.mk (by omega) ?_ | (refine Nd.mk ?_ ?_; focus ((repeat' (first | exact trivial | exact wkE_refl _ | refine And.intro ?_ ?_)); done)) | refine RdN.intro _ rfl (by rfl) ?_); (conv => whnf))))
      refine RwN.known [_] rfl fun nb => ?_
      (first | refine wX ?_ | exact wZ)
      try refine Nd.mk ⟨rfl, by omega, by omega⟩ ?_
      (first | refine wX ?_ | exact wZ)
      refine EffW.appTo (i := 2) (q := i) (ys := [vlV ⟨[value], some nb, 1⟩]) (vC l.length (upd v i ⟨[value], some nb, 1⟩)) 1 rfl
        (by rw [Int.toNat_natCast]; show AV.c (CV.v (Value.pointer (some ((⟨R.vb, 0, none⟩ : Addr).add (i * 1))))) = _; rw [add_lit0, Nat.mul_one]) rfl rfl rfl rfl rfl (by show i + 1 ≤ l.length * 1; omega) (vC_set v _ hil) rfl ?_
      (first | refine wX ?_ | exact wZ)
      refine ⟨upd v i ⟨[value], some nb, 1⟩, fun j => upd_xs v i _ j, rfl, .inr ⟨5 + i, 13, ?_⟩⟩
      have hi8 : i < 8 := by omega
      clear hgi ho hil
      rcases i with _ | _ | _ | _ | _ | _ | _ | _ | i <;> first | exact ⟨rfl, rfl, rfl, wkE_refl _, wkE_refl _, wkE_refl _, wkE_refl _, wkE_refl _, wkE_refl _, wkE_refl _, wkE_refl _, wkE_refl _, wkE_refl _, wkE_refl _, wkE_refl _, wkE_refl _, wkH_nil _⟩ | omega
    · -- the next word
      (first | refine wX ?_ | exact wZ)
      refine callG (next_c R l W at_ left true hat hW hwa) [0, 1] rfl ⟨rfl, rfl, trivial⟩ rfl fun _ _ => ?_
      cases hr : nextS W at_ true with
      | none =>
        have hG : giveK W 1 i no value false (psOf at_ v g left) = (psOf at_ v g left, 14) := by
          unfold giveK takeS
          rw [show (psOf at_ v g left).given.getD i 0 = g.getD i 0 from rfl, decide_eq_false h7, show nextS W (psOf at_ v g left).at_ (!((1 : Int) == 2)) = none from hr]
          rfl
        rw [hG]
        -- nothing is changed
        (first | refine wX ?_ | exact wZ)
        exact ⟨v, fun _ => rfl, rfl, .inl ⟨wkE_refl _, wkE_refl _, wkE_refl _, wkE_refl _, wkE_refl _, wkE_refl _, wkE_refl _, wkE_refl _, wkE_refl _, wkE_refl _, wkE_refl _, wkE_refl _, wkE_refl _, wkH_nil _⟩⟩
      | some nw =>
        have hG : giveK W 1 i no value false (psOf at_ v g left) = (⟨at_ + 1, upd (fun j => (v j).xs) i [nw], g.set i (IntKind.i64.wrap (g.getD i 0 + 1)), left.xs⟩, 0) := by
          unfold giveK takeS
          rw [show (psOf at_ v g left).given.getD i 0 = g.getD i 0 from rfl, decide_eq_false h7, show nextS W (psOf at_ v g left).at_ (!((1 : Int) == 2)) = some nw from hr]
          rfl
        rw [hG]
        (first | refine wX ?_ | exact wZ)
        -- 4: the field, .slice (some ⟨R.gb, 0, none⟩) l.length l.length: the value
        refine LdN.one (a := some ⟨R.rb, 0, none⟩) (q := 4) (.slice (some ⟨R.gb, 0, none⟩) l.length l.length) rfl (fun w hw => hw.2.1) rfl ?_
        (first | refine wX ?_ | exact wZ)
        try refine Nd.mk ⟨rfl, by omega, by omega⟩ ?_
        (first | refine wX ?_ | exact wZ)
        refine LdN.one (.int .i64 (g.getD i 0)) rfl (fun w hw => hw.2.2.2.1) (by rw [Int.toNat_natCast]; show (gC g)[i * 1]? = _; rw [Nat.mul_one]; exact hgi) ?_
        (first | refine wX ?_ | exact wZ)
        try refine Nd.mk ⟨rfl, by omega, by omega⟩ ?_
        (first | refine wX ?_ | exact wZ)
        refine EffW.appTo (i := 3) (q := i) (ys := [.int .i64 (IntKind.i64.wrap (g.getD i 0 + 1))]) (gC (g.set i (IntKind.i64.wrap (g.getD i 0 + 1)))) 1 rfl
          (by rw [Int.toNat_natCast]; show AV.c (CV.v (Value.pointer (some ((⟨R.gb, 0, none⟩ : Addr).add (i * 1))))) = _; rw [add_lit0, Nat.mul_one]) rfl rfl rfl rfl rfl (by show i + 1 ≤ l.length * 1; omega) (gC_set _ (by omega)) rfl ?_
        -- nw: the text; the new slice is known
        (first | refine wX ?_ | exact wZ)
        -- 3: the field, .slice (some ⟨R.vb, 0, none⟩) l.length l.length: the value
        refine LdN.one (a := some ⟨R.rb, 0, none⟩) (q := 3) (.slice (some ⟨R.vb, 0, none⟩) l.length l.length) rfl (fun w hw => hw.2.1) rfl ?_
        ((conv => whnf); (repeat ((first | refine BoxN.own ?_ | refine VrN.norm (wrap_i64 (by omega)) ?_ | refine VrN.keep ?_ | refine DrawN.calm (by decide +kernel) ?_ | refine Nd.mk (by decide +kernel) ?_ | refine Nd.mk (by omega) ?_ | (refine Nd.mk ?_ ?_; focus ((repeat' (first | exact trivial | exact wkE_refl _ | refine And.intro ?_ ?_)); done)) | refine RdN.intro _ rfl (by rfl) ?_); (conv => whnf))))
        refine RwN.known [_] rfl fun nb => ?_
        (first | refine wX ?_ | exact wZ)
        try refine Nd.mk ⟨rfl, by omega, by omega⟩ ?_
        (first | refine wX ?_ | exact wZ)
        refine EffW.appTo (i := 2) (q := i) (ys := [vlV ⟨[nw], some nb, 1⟩]) (vC l.length (upd v i ⟨[nw], some nb, 1⟩)) 1 rfl
          (by rw [Int.toNat_natCast]; show AV.c (CV.v (Value.pointer (some ((⟨R.vb, 0, none⟩ : Addr).add (i * 1))))) = _; rw [add_lit0, Nat.mul_one]) rfl rfl rfl rfl rfl (by show i + 1 ≤ l.length * 1; omega) (vC_set v _ hil) rfl ?_
        (first | refine wX ?_ | exact wZ)
        refine ⟨upd v i ⟨[nw], some nb, 1⟩, fun j => upd_xs v i _ j, rfl, .inr ⟨5 + i, 13, ?_⟩⟩
        have hi8 : i < 8 := by omega
        clear hgi ho hil
        rcases i with _ | _ | _ | _ | _ | _ | _ | _ | i <;> first | exact ⟨rfl, rfl, rfl, wkE_refl _, wkE_refl _, wkE_refl _, wkE_refl _, wkE_refl _, wkE_refl _, wkE_refl _, wkE_refl _, wkE_refl _, wkE_refl _, wkE_refl _, wkE_refl _, wkE_refl _, wkH_nil _⟩ | omega
  · -- 2: the kind; two goals stay: with a value, without
    (first | refine wX ?_ | exact wZ)
    -- 4: the field, .slice (some ⟨R.gb, 0, none⟩) l.length l.length: the value
    refine LdN.one (a := some ⟨R.rb, 0, none⟩) (q := 4) (.slice (some ⟨R.gb, 0, none⟩) l.length l.length) rfl (fun w hw => hw.2.1) rfl ?_
    (first | refine wX ?_ | exact wZ)
    try refine Nd.mk ⟨rfl, by omega, by omega⟩ ?_
    (first | refine wX ?_ | exact wZ)
    refine LdN.one (.int .i64 (g.getD i 0)) rfl (fun w hw => hw.2.2.2.1) (by rw [Int.toNat_natCast]; show (gC g)[i * 1]? = _; rw [Nat.mul_one]; exact hgi) ?_
    (first | refine wX ?_ | exact wZ)
    refine brd_dec (fun h7 => ?_) (fun h7 => ?_)
    · have hG : giveK W 2 i no value has (psOf at_ v g left) = (psOf at_ v g left, 7) := by
        unfold giveK
        rw [show (psOf at_ v g left).given.getD i 0 = g.getD i 0 from rfl, decide_eq_true h7]
        rfl
      rw [hG]
      -- nothing is changed
      (first | refine wX ?_ | exact wZ)
      exact ⟨v, fun _ => rfl, rfl, .inl ⟨wkE_refl _, wkE_refl _, wkE_refl _, wkE_refl _, wkE_refl _, wkE_refl _, wkE_refl _, wkE_refl _, wkE_refl _, wkE_refl _, wkE_refl _, wkE_refl _, wkE_refl _, wkH_nil _⟩⟩
    cases has
    rotate_left
    · have hG : giveK W 2 i no value true (psOf at_ v g left) = (⟨at_, upd (fun j => (v j).xs) i [value], g.set i (IntKind.i64.wrap (g.getD i 0 + 1)), left.xs⟩, 0) := by
        unfold giveK
        rw [show (psOf at_ v g left).given.getD i 0 = g.getD i 0 from rfl, decide_eq_false h7]
        rfl
      rw [hG]
      (first | refine wX ?_ | exact wZ)
      -- 4: the field, .slice (some ⟨R.gb, 0, none⟩) l.length l.length: the value
      refine LdN.one (a := some ⟨R.rb, 0, none⟩) (q := 4) (.slice (some ⟨R.gb, 0, none⟩) l.length l.length) rfl (fun w hw => hw.2.1) rfl ?_
      (first | refine wX ?_ | exact wZ)
      try refine Nd.mk ⟨rfl, by omega, by omega⟩ ?_
      (first | refine wX ?_ | exact wZ)
      refine LdN.one (.int .i64 (g.getD i 0)) rfl (fun w hw => hw.2.2.2.1) (by rw [Int.toNat_natCast]; show (gC g)[i * 1]? = _; rw [Nat.mul_one]; exact hgi) ?_
      (first | refine wX ?_ | exact wZ)
      try refine Nd.mk ⟨rfl, by omega, by omega⟩ ?_
      (first | refine wX ?_ | exact wZ)
      refine EffW.appTo (i := 3) (q := i) (ys := [.int .i64 (IntKind.i64.wrap (g.getD i 0 + 1))]) (gC (g.set i (IntKind.i64.wrap (g.getD i 0 + 1)))) 1 rfl
        (by rw [Int.toNat_natCast]; show AV.c (CV.v (Value.pointer (some ((⟨R.gb, 0, none⟩ : Addr).add (i * 1))))) = _; rw [add_lit0, Nat.mul_one]) rfl rfl rfl rfl rfl (by show i + 1 ≤ l.length * 1; omega) (gC_set _ (by omega)) rfl ?_
      -- value: the text; the new slice is known
      (first | refine wX ?_ | exact wZ)
      -- 3: the field, .slice (some ⟨R.vb, 0, none⟩) l.length l.length: the value
      refine LdN.one (a := some ⟨R.rb, 0, none⟩) (q := 3) (.slice (some ⟨R.vb, 0, none⟩) l.length l.length) rfl (fun w hw => hw.2.1) rfl ?_
      ((conv => whnf); (repeat ((first | refine BoxN.own ?_ | refine VrN.norm (wrap_i64 (by omega)) ?_ | refine VrN.keep ?_ | refine DrawN.calm (by decide +kernel) ?_ | refine Nd.mk (by decide +kernel) ?_ | refine Nd.mk (by omega) ?_ | (refine Nd.mk ?_ ?_; focus ((repeat' (first | exact trivial | exact wkE_refl _ | refine And.intro ?_ ?_)); done)) | refine RdN.intro _ rfl (by rfl) ?_); (conv => whnf))))
      refine RwN.known [_] rfl fun nb => ?_
      (first | refine wX ?_ | exact wZ)
      try refine Nd.mk ⟨rfl, by omega, by omega⟩ ?_
      (first | refine wX ?_ | exact wZ)
      refine EffW.appTo (i := 2) (q := i) (ys := [vlV ⟨[value], some nb, 1⟩]) (vC l.length (upd v i ⟨[value], some nb, 1⟩)) 1 rfl
        (by rw [Int.toNat_natCast]; show AV.c (CV.v (Value.pointer (some ((⟨R.vb, 0, none⟩ : Addr).add (i * 1))))) = _; rw [add_lit0, Nat.mul_one]) rfl rfl rfl rfl rfl (by show i + 1 ≤ l.length * 1; omega) (vC_set v _ hil) rfl ?_
      (first | refine wX ?_ | exact wZ)
      refine ⟨upd v i ⟨[value], some nb, 1⟩, fun j => upd_xs v i _ j, rfl, .inr ⟨5 + i, 13, ?_⟩⟩
      have hi8 : i < 8 := by omega
      clear hgi ho hil
      rcases i with _ | _ | _ | _ | _ | _ | _ | _ | i <;> first | exact ⟨rfl, rfl, rfl, wkE_refl _, wkE_refl _, wkE_refl _, wkE_refl _, wkE_refl _, wkE_refl _, wkE_refl _, wkE_refl _, wkE_refl _, wkE_refl _, wkE_refl _, wkE_refl _, wkE_refl _, wkH_nil _⟩ | omega
    · -- the next word
      (first | refine wX ?_ | exact wZ)
      refine callG (next_c R l W at_ left false hat hW hwa) [0, 1] rfl ⟨rfl, rfl, trivial⟩ rfl fun _ _ => ?_
      cases hr : nextS W at_ false with
      | none =>
        have hG : giveK W 2 i no value false (psOf at_ v g left) = (⟨at_, upd (fun j => (v j).xs) i [[]], g.set i (IntKind.i64.wrap (g.getD i 0 + 1)), left.xs⟩, 0) := by
          unfold giveK takeS
          rw [show (psOf at_ v g left).given.getD i 0 = g.getD i 0 from rfl, decide_eq_false h7, show nextS W (psOf at_ v g left).at_ (!((2 : Int) == 2)) = none from hr]
          rfl
        rw [hG]
        (first | refine wX ?_ | exact wZ)
        -- 4: the field, .slice (some ⟨R.gb, 0, none⟩) l.length l.length: the value
        refine LdN.one (a := some ⟨R.rb, 0, none⟩) (q := 4) (.slice (some ⟨R.gb, 0, none⟩) l.length l.length) rfl (fun w hw => hw.2.1) rfl ?_
        (first | refine wX ?_ | exact wZ)
        try refine Nd.mk ⟨rfl, by omega, by omega⟩ ?_
        (first | refine wX ?_ | exact wZ)
        refine LdN.one (.int .i64 (g.getD i 0)) rfl (fun w hw => hw.2.2.2.1) (by rw [Int.toNat_natCast]; show (gC g)[i * 1]? = _; rw [Nat.mul_one]; exact hgi) ?_
        (first | refine wX ?_ | exact wZ)
        try refine Nd.mk ⟨rfl, by omega, by omega⟩ ?_
        (first | refine wX ?_ | exact wZ)
        refine EffW.appTo (i := 3) (q := i) (ys := [.int .i64 (IntKind.i64.wrap (g.getD i 0 + 1))]) (gC (g.set i (IntKind.i64.wrap (g.getD i 0 + 1)))) 1 rfl
          (by rw [Int.toNat_natCast]; show AV.c (CV.v (Value.pointer (some ((⟨R.gb, 0, none⟩ : Addr).add (i * 1))))) = _; rw [add_lit0, Nat.mul_one]) rfl rfl rfl rfl rfl (by show i + 1 ≤ l.length * 1; omega) (gC_set _ (by omega)) rfl ?_
        -- []: the text; the new slice is known
        (first | refine wX ?_ | exact wZ)
        -- 3: the field, .slice (some ⟨R.vb, 0, none⟩) l.length l.length: the value
        refine LdN.one (a := some ⟨R.rb, 0, none⟩) (q := 3) (.slice (some ⟨R.vb, 0, none⟩) l.length l.length) rfl (fun w hw => hw.2.1) rfl ?_
        ((conv => whnf); (repeat ((first | refine BoxN.own ?_ | refine VrN.norm (wrap_i64 (by omega)) ?_ | refine VrN.keep ?_ | refine DrawN.calm (by decide +kernel) ?_ | refine Nd.mk (by decide +kernel) ?_ | refine Nd.mk (by omega) ?_ | (refine Nd.mk ?_ ?_; focus ((repeat' (first | exact trivial | exact wkE_refl _ | refine And.intro ?_ ?_)); done)) | refine RdN.intro _ rfl (by rfl) ?_); (conv => whnf))))
        refine RwN.known [_] rfl fun nb => ?_
        (first | refine wX ?_ | exact wZ)
        try refine Nd.mk ⟨rfl, by omega, by omega⟩ ?_
        (first | refine wX ?_ | exact wZ)
        refine EffW.appTo (i := 2) (q := i) (ys := [vlV ⟨[[]], some nb, 1⟩]) (vC l.length (upd v i ⟨[[]], some nb, 1⟩)) 1 rfl
          (by rw [Int.toNat_natCast]; show AV.c (CV.v (Value.pointer (some ((⟨R.vb, 0, none⟩ : Addr).add (i * 1))))) = _; rw [add_lit0, Nat.mul_one]) rfl rfl rfl rfl rfl (by show i + 1 ≤ l.length * 1; omega) (vC_set v _ hil) rfl ?_
        (first | refine wX ?_ | exact wZ)
        refine ⟨upd v i ⟨[[]], some nb, 1⟩, fun j => upd_xs v i _ j, rfl, .inr ⟨5 + i, 13, ?_⟩⟩
        have hi8 : i < 8 := by omega
        clear hgi ho hil
        rcases i with _ | _ | _ | _ | _ | _ | _ | _ | i <;> first | exact ⟨rfl, rfl, rfl, wkE_refl _, wkE_refl _, wkE_refl _, wkE_refl _, wkE_refl _, wkE_refl _, wkE_refl _, wkE_refl _, wkE_refl _, wkE_refl _, wkE_refl _, wkE_refl _, wkE_refl _, wkH_nil _⟩ | omega
      | some nw =>
        have hG : giveK W 2 i no value false (psOf at_ v g left) = (⟨at_ + 1, upd (fun j => (v j).xs) i [nw], g.set i (IntKind.i64.wrap (g.getD i 0 + 1)), left.xs⟩, 0) := by
          unfold giveK takeS
          rw [show (psOf at_ v g left).given.getD i 0 = g.getD i 0 from rfl, decide_eq_false h7, show nextS W (psOf at_ v g left).at_ (!((2 : Int) == 2)) = some nw from hr]
          rfl
        rw [hG]
        (first | refine wX ?_ | exact wZ)
        -- 4: the field, .slice (some ⟨R.gb, 0, none⟩) l.length l.length: the value
        refine LdN.one (a := some ⟨R.rb, 0, none⟩) (q := 4) (.slice (some ⟨R.gb, 0, none⟩) l.length l.length) rfl (fun w hw => hw.2.1) rfl ?_
        (first | refine wX ?_ | exact wZ)
        try refine Nd.mk ⟨rfl, by omega, by omega⟩ ?_
        (first | refine wX ?_ | exact wZ)
        refine LdN.one (.int .i64 (g.getD i 0)) rfl (fun w hw => hw.2.2.2.1) (by rw [Int.toNat_natCast]; show (gC g)[i * 1]? = _; rw [Nat.mul_one]; exact hgi) ?_
        (first | refine wX ?_ | exact wZ)
        try refine Nd.mk ⟨rfl, by omega, by omega⟩ ?_
        (first | refine wX ?_ | exact wZ)
        refine EffW.appTo (i := 3) (q := i) (ys := [.int .i64 (IntKind.i64.wrap (g.getD i 0 + 1))]) (gC (g.set i (IntKind.i64.wrap (g.getD i 0 + 1)))) 1 rfl
          (by rw [Int.toNat_natCast]; show AV.c (CV.v (Value.pointer (some ((⟨R.gb, 0, none⟩ : Addr).add (i * 1))))) = _; rw [add_lit0, Nat.mul_one]) rfl rfl rfl rfl rfl (by show i + 1 ≤ l.length * 1; omega) (gC_set _ (by omega)) rfl ?_
        -- nw: the text; the new slice is known
        (first | refine wX ?_ | exact wZ)
        -- 3: the field, .slice (some ⟨R.vb, 0, none⟩) l.length l.length: the value
        refine LdN.one (a := some ⟨R.rb, 0, none⟩) (q := 3) (.slice (some ⟨R.vb, 0, none⟩) l.length l.length) rfl (fun w hw => hw.2.1) rfl ?_
        ((conv => whnf); (repeat ((first | refine BoxN.own ?_ | refine VrN.norm (wrap_i64 (by omega)) ?_ | refine VrN.keep ?_ | refine DrawN.calm (by decide +kernel) ?_ | refine Nd.mk (by decide +kernel) ?_ | refine Nd.mk (by omega) ?_ | (refine Nd.mk ?_ ?_; focus ((repeat' (first | exact trivial | exact wkE_refl _ | refine And.intro ?_ ?_)); done)) | refine RdN.intro _ rfl (by rfl) ?_); (conv => whnf))))
        refine RwN.known [_] rfl fun nb => ?_
        (first | refine wX ?_ | exact wZ)
        try refine Nd.mk ⟨rfl, by omega, by omega⟩ ?_
        (first | refine wX ?_ | exact wZ)
        refine EffW.appTo (i := 2) (q := i) (ys := [vlV ⟨[nw], some nb, 1⟩]) (vC l.length (upd v i ⟨[nw], some nb, 1⟩)) 1 rfl
          (by rw [Int.toNat_natCast]; show AV.c (CV.v (Value.pointer (some ((⟨R.vb, 0, none⟩ : Addr).add (i * 1))))) = _; rw [add_lit0, Nat.mul_one]) rfl rfl rfl rfl rfl (by show i + 1 ≤ l.length * 1; omega) (vC_set v _ hil) rfl ?_
        (first | refine wX ?_ | exact wZ)
        refine ⟨upd v i ⟨[nw], some nb, 1⟩, fun j => upd_xs v i _ j, rfl, .inr ⟨5 + i, 13, ?_⟩⟩
        have hi8 : i < 8 := by omega
        clear hgi ho hil
        rcases i with _ | _ | _ | _ | _ | _ | _ | _ | i <;> first | exact ⟨rfl, rfl, rfl, wkE_refl _, wkE_refl _, wkE_refl _, wkE_refl _, wkE_refl _, wkE_refl _, wkE_refl _, wkE_refl _, wkE_refl _, wkE_refl _, wkE_refl _, wkE_refl _, wkE_refl _, wkH_nil _⟩ | omega
  · cases has with
    | true =>
      have hG : giveK W 3 i no value true (psOf at_ v g left) = (psOf at_ v g left, 4) := rfl
      rw [hG]
      -- nothing is changed
      (first | refine wX ?_ | exact wZ)
      exact ⟨v, fun _ => rfl, rfl, .inl ⟨wkE_refl _, wkE_refl _, wkE_refl _, wkE_refl _, wkE_refl _, wkE_refl _, wkE_refl _, wkE_refl _, wkE_refl _, wkE_refl _, wkE_refl _, wkE_refl _, wkE_refl _, wkH_nil _⟩⟩
    | false =>
      have hG : giveK W 3 i no value false (psOf at_ v g left) = (⟨at_, fun j => (v j).xs, g.set i (IntKind.i64.wrap (g.getD i 0 + 1)), left.xs⟩, 0) := rfl
      rw [hG]
      (first | refine wX ?_ | exact wZ)
      -- 4: the field, .slice (some ⟨R.gb, 0, none⟩) l.length l.length: the value
      refine LdN.one (a := some ⟨R.rb, 0, none⟩) (q := 4) (.slice (some ⟨R.gb, 0, none⟩) l.length l.length) rfl (fun w hw => hw.2.1) rfl ?_
      (first | refine wX ?_ | exact wZ)
      try refine Nd.mk ⟨rfl, by omega, by omega⟩ ?_
      (first | refine wX ?_ | exact wZ)
      refine LdN.one (.int .i64 (g.getD i 0)) rfl (fun w hw => hw.2.2.2.1) (by rw [Int.toNat_natCast]; show (gC g)[i * 1]? = _; rw [Nat.mul_one]; exact hgi) ?_
      (first | refine wX ?_ | exact wZ)
      try refine Nd.mk ⟨rfl, by omega, by omega⟩ ?_
      (first | refine wX ?_ | exact wZ)
      refine EffW.appTo (i := 3) (q := i) (ys := [.int .i64 (IntKind.i64.wrap (g.getD i 0 + 1))]) (gC (g.set i (IntKind.i64.wrap (g.getD i 0 + 1)))) 1 rfl
        (by rw [Int.toNat_natCast]; show AV.c (CV.v (Value.pointer (some ((⟨R.gb, 0, none⟩ : Addr).add (i * 1))))) = _; rw [add_lit0, Nat.mul_one]) rfl rfl rfl rfl rfl (by show i + 1 ≤ l.length * 1; omega) (gC_set _ (by omega)) rfl ?_
      -- nothing is changed
      (first | refine wX ?_ | exact wZ)
      exact ⟨v, fun _ => rfl, rfl, .inl ⟨wkE_refl _, wkE_refl _, wkE_refl _, wkE_refl _, wkE_refl _, wkE_refl _, wkE_refl _, wkE_refl _, wkE_refl _, wkE_refl _, wkE_refl _, wkE_refl _, wkE_refl _, wkH_nil _⟩⟩
  · cases has with
    | true =>
      have hG : giveK W 4 i no value true (psOf at_ v g left) = (⟨at_, upd (fun j => (v j).xs) i ((v i).xs ++ [value]), g.set i (IntKind.i64.wrap (g.getD i 0 + 1)), left.xs⟩, 0) := rfl
      rw [hG]
      (first | refine wX ?_ | exact wZ)
      -- 4: the field, .slice (some ⟨R.gb, 0, none⟩) l.length l.length: the value
      refine LdN.one (a := some ⟨R.rb, 0, none⟩) (q := 4) (.slice (some ⟨R.gb, 0, none⟩) l.length l.length) rfl (fun w hw => hw.2.1) rfl ?_
      (first | refine wX ?_ | exact wZ)
      try refine Nd.mk ⟨rfl, by omega, by omega⟩ ?_
      (first | refine wX ?_ | exact wZ)
      refine LdN.one (.int .i64 (g.getD i 0)) rfl (fun w hw => hw.2.2.2.1) (by rw [Int.toNat_natCast]; show (gC g)[i * 1]? = _; rw [Nat.mul_one]; exact hgi) ?_
      (first | refine wX ?_ | exact wZ)
      try refine Nd.mk ⟨rfl, by omega, by omega⟩ ?_
      (first | refine wX ?_ | exact wZ)
      refine EffW.appTo (i := 3) (q := i) (ys := [.int .i64 (IntKind.i64.wrap (g.getD i 0 + 1))]) (gC (g.set i (IntKind.i64.wrap (g.getD i 0 + 1)))) 1 rfl
        (by rw [Int.toNat_natCast]; show AV.c (CV.v (Value.pointer (some ((⟨R.gb, 0, none⟩ : Addr).add (i * 1))))) = _; rw [add_lit0, Nat.mul_one]) rfl rfl rfl rfl rfl (by show i + 1 ≤ l.length * 1; omega) (gC_set _ (by omega)) rfl ?_
      (first | refine wX ?_ | exact wZ)
      refine DrawN.planC (fun w => SlAt (some ⟨R.rb, 0, none⟩) 6 (rC R l.length W.length at_ left) w ∧ SlAt (some ⟨R.vb, 0, none⟩) (l.length * 1) (vC l.length v) w) [0, 5, 6, 11, 14] [(1, 2), (2, 2), (3, 2), (4, 1), (7, 2), (8, 2), (9, 2), (10, 1), (12, 1), (13, 1), (15, 0), (16, 0), (17, 1)] [(18, 0)] (by decide +kernel) (fun w hw => ⟨hw.2.1, hw.2.2.1⟩) ?_
      (first | refine wX ?_ | exact wZ)
      refine ReadC.one (a := some ⟨R.rb, 0, none⟩) (q := 3) (.slice (some ⟨R.vb, 0, none⟩) l.length l.length) rfl rfl rfl (fun w hw => hw.1) rfl ?_
      (first | refine wX ?_ | exact wZ)
      refine ReadC.one (a := some ⟨R.rb, 0, none⟩) (q := 3) (.slice (some ⟨R.vb, 0, none⟩) l.length l.length) rfl rfl rfl (fun w hw => hw.1) rfl ?_
      (first | refine wX ?_ | exact wZ)
      refine ReadC.idx (sz := 1) i rfl Tryz.underlying34 rfl rfl rfl rfl hil ?_
      (first | refine wX ?_ | exact wZ)
      refine ReadC.one (a := some ⟨R.vb, 0, none⟩) (q := i) (vlV (v i)) rfl (by show AV.c (CV.v (Value.pointer (some ⟨R.vb, i * 1, none⟩))) = AV.c (CV.v (Value.pointer (some ((⟨R.vb, 0, none⟩ : Addr).add i)))); rw [add_lit0, Nat.mul_one]) rfl (fun w hw => hw.2) (vC_get v hil) ?_
      (first | refine wX ?_ | exact wZ)
      refine Nd.mk (fun w hw => ⟨hw.2.1, hw.2.2.1⟩) ?_
      have hi8 : i < 8 := by omega
      clear hgi ho
      rcases i with _ | _ | _ | _ | _ | _ | _ | _ | i
      · -- value: the text, at_: the place, 0: which one, 5: its entry
        (conv => whnf)
        try refine Nd.mk ⟨Nat.le_refl 1, rfl, rfl⟩ ?_
        (conv => whnf)
        refine AppN.grow 5 (strC (v 0).xs) [.string (bs value)] rfl rfl ⟨Nat.le_refl 1, ⟨by show ((v 0).xs.length + 1) * 16 ≤ _; have hv0 : (v 0).xs.length ≤ 1000000 := hv; omega, by have hv0 : (v 0).xs.length ≤ 1000000 := hv; show (v 0).xs.length + 1 < _; omega⟩, Nat.one_ne_zero⟩ fun b1 c1 h11 h12 => ?_
        (conv => whnf)
        refine Nd.mk (fun w hw => ⟨hw.2.1, hw.2.2.1⟩) ?_
        (first | refine wX ?_ | exact wZ)
        refine ReadC.idx (sz := 1) 0 rfl Tryz.underlying34 rfl rfl rfl rfl hil ?_
        (first | refine wX ?_ | exact wZ)
        refine EffW.appTo (i := 2) (q := 0) (ys := [.slice (some ⟨b1, 0, none⟩) ((v 0).xs.length + 1) c1]) (vC l.length (upd v 0 ⟨(v 0).xs ++ [value], some b1, c1⟩)) 1 rfl rfl rfl rfl rfl rfl rfl (by show 0 + 1 ≤ l.length * 1; omega)
          (by have e : vlV ⟨(v 0).xs ++ [value], some b1, c1⟩ = .slice (some ⟨b1, 0, none⟩) ((v 0).xs.length + 1) c1 := by simp [vlV, at0]
              rw [← e]
              exact vC_set v _ hil) rfl ?_
        (first | refine wX ?_ | exact wZ)
        refine ⟨upd v 0 ⟨(v 0).xs ++ [value], some b1, c1⟩, fun j => upd_xs v 0 _ j, rfl, .inl ⟨?_, ?_, ?_, ?_, ?_, ?_, ?_, ?_, ?_, ?_, ?_, ?_, ?_, wkH_nil _⟩⟩ <;> first | exact wkE_refl _ | exact .inl ⟨rfl, rfl, strC_snoc _ _, rfl, by show (v 0).xs.length + 1 = ((v 0).xs ++ [value]).length; simp, rfl⟩
      · -- value: the text, at_: the place, 1: which one, 6: its entry
        (conv => whnf)
        try refine Nd.mk ⟨Nat.le_refl 1, rfl, rfl⟩ ?_
        (conv => whnf)
        refine AppN.grow 6 (strC (v 1).xs) [.string (bs value)] rfl rfl ⟨Nat.le_refl 1, ⟨by show ((v 1).xs.length + 1) * 16 ≤ _; have hv0 : (v 1).xs.length ≤ 1000000 := hv; omega, by have hv0 : (v 1).xs.length ≤ 1000000 := hv; show (v 1).xs.length + 1 < _; omega⟩, Nat.one_ne_zero⟩ fun b1 c1 h11 h12 => ?_
        (conv => whnf)
        refine Nd.mk (fun w hw => ⟨hw.2.1, hw.2.2.1⟩) ?_
        (first | refine wX ?_ | exact wZ)
        refine ReadC.idx (sz := 1) 1 rfl Tryz.underlying34 rfl rfl rfl rfl hil ?_
        (first | refine wX ?_ | exact wZ)
        refine EffW.appTo (i := 2) (q := 1) (ys := [.slice (some ⟨b1, 0, none⟩) ((v 1).xs.length + 1) c1]) (vC l.length (upd v 1 ⟨(v 1).xs ++ [value], some b1, c1⟩)) 1 rfl rfl rfl rfl rfl rfl rfl (by show 1 + 1 ≤ l.length * 1; omega)
          (by have e : vlV ⟨(v 1).xs ++ [value], some b1, c1⟩ = .slice (some ⟨b1, 0, none⟩) ((v 1).xs.length + 1) c1 := by simp [vlV, at0]
              rw [← e]
              exact vC_set v _ hil) rfl ?_
        (first | refine wX ?_ | exact wZ)
        refine ⟨upd v 1 ⟨(v 1).xs ++ [value], some b1, c1⟩, fun j => upd_xs v 1 _ j, rfl, .inl ⟨?_, ?_, ?_, ?_, ?_, ?_, ?_, ?_, ?_, ?_, ?_, ?_, ?_, wkH_nil _⟩⟩ <;> first | exact wkE_refl _ | exact .inl ⟨rfl, rfl, strC_snoc _ _, rfl, by show (v 1).xs.length + 1 = ((v 1).xs ++ [value]).length; simp, rfl⟩
      · -- value: the text, at_: the place, 2: which one, 7: its entry
        (conv => whnf)
        try refine Nd.mk ⟨Nat.le_refl 1, rfl, rfl⟩ ?_
        (conv => whnf)
        refine AppN.grow 7 (strC (v 2).xs) [.string (bs value)] rfl rfl ⟨Nat.le_refl 1, ⟨by show ((v 2).xs.length + 1) * 16 ≤ _; have hv0 : (v 2).xs.length ≤ 1000000 := hv; omega, by have hv0 : (v 2).xs.length ≤ 1000000 := hv; show (v 2).xs.length + 1 < _; omega⟩, Nat.one_ne_zero⟩ fun b1 c1 h11 h12 => ?_
        (conv => whnf)
        refine Nd.mk (fun w hw => ⟨hw.2.1, hw.2.2.1⟩) ?_
        (first | refine wX ?_ | exact wZ)
        refine ReadC.idx (sz := 1) 2 rfl Tryz.underlying34 rfl rfl rfl rfl hil ?_
        (first | refine wX ?_ | exact wZ)
        refine EffW.appTo (i := 2) (q := 2) (ys := [.slice (some ⟨b1, 0, none⟩) ((v 2).xs.length + 1) c1]) (vC l.length (upd v 2 ⟨(v 2).xs ++ [value], some b1, c1⟩)) 1 rfl rfl rfl rfl rfl rfl rfl (by show 2 + 1 ≤ l.length * 1; omega)
          (by have e : vlV ⟨(v 2).xs ++ [value], some b1, c1⟩ = .slice (some ⟨b1, 0, none⟩) ((v 2).xs.length + 1) c1 := by simp [vlV, at0]
              rw [← e]
              exact vC_set v _ hil) rfl ?_
        (first | refine wX ?_ | exact wZ)
        refine ⟨upd v 2 ⟨(v 2).xs ++ [value], some b1, c1⟩, fun j => upd_xs v 2 _ j, rfl, .inl ⟨?_, ?_, ?_, ?_, ?_, ?_, ?_, ?_, ?_, ?_, ?_, ?_, ?_, wkH_nil _⟩⟩ <;> first | exact wkE_refl _ | exact .inl ⟨rfl, rfl, strC_snoc _ _, rfl, by show (v 2).xs.length + 1 = ((v 2).xs ++ [value]).length; simp, rfl⟩
      · -- value: the text, at_: the place, 3: which one, 8: its entry
        (conv => whnf)
        try refine Nd.mk ⟨Nat.le_refl 1, rfl, rfl⟩ ?_
        (conv => whnf)
        refine AppN.grow 8 (strC (v 3).xs) [.string (bs value)] rfl rfl ⟨Nat.le_refl 1, ⟨by show ((v 3).xs.length + 1) * 16 ≤ _; have hv0 : (v 3).xs.length ≤ 1000000 := hv; omega, by have hv0 : (v 3).xs.length ≤ 1000000 := hv; show (v 3).xs.length + 1 < _; omega⟩, Nat.one_ne_zero⟩ fun b1 c1 h11 h12 => ?_
        (conv => whnf)
        refine Nd.mk (fun w hw => ⟨hw.2.1, hw.2.2.1⟩) ?_
        (first | refine wX ?_ | exact wZ)
        refine ReadC.idx (sz := 1) 3 rfl Tryz.underlying34 rfl rfl rfl rfl hil ?_
        (first | refine wX ?_ | exact wZ)
        refine EffW.appTo (i := 2) (q := 3) (ys := [.slice (some ⟨b1, 0, none⟩) ((v 3).xs.length + 1) c1]) (vC l.length (upd v 3 ⟨(v 3).xs ++ [value], some b1, c1⟩)) 1 rfl rfl rfl rfl rfl rfl rfl (by show 3 + 1 ≤ l.length * 1; omega)
          (by have e : vlV ⟨(v 3).xs ++ [value], some b1, c1⟩ = .slice (some ⟨b1, 0, none⟩) ((v 3).xs.length + 1) c1 := by simp [vlV, at0]
              rw [← e]
              exact vC_set v _ hil) rfl ?_
        (first | refine wX ?_ | exact wZ)
        refine ⟨upd v 3 ⟨(v 3).xs ++ [value], some b1, c1⟩, fun j => upd_xs v 3 _ j, rfl, .inl ⟨?_, ?_, ?_, ?_, ?_, ?_, ?_, ?_, ?_, ?_, ?_, ?_, ?_, wkH_nil _⟩⟩ <;> first | exact wkE_refl _ | exact .inl ⟨rfl, rfl, strC_snoc _ _, rfl, by show (v 3).xs.length + 1 = ((v 3).xs ++ [value]).length; simp, rfl⟩
      · -- value: the text, at_: the place, 4: which one, 9: its entry
        (conv => whnf)
        try refine Nd.mk ⟨Nat.le_refl 1, rfl, rfl⟩ ?_
        (conv => whnf)
        refine AppN.grow 9 (strC (v 4).xs) [.string (bs value)] rfl rfl ⟨Nat.le_refl 1, ⟨by show ((v 4).xs.length + 1) * 16 ≤ _; have hv0 : (v 4).xs.length ≤ 1000000 := hv; omega, by have hv0 : (v 4).xs.length ≤ 1000000 := hv; show (v 4).xs.length + 1 < _; omega⟩, Nat.one_ne_zero⟩ fun b1 c1 h11 h12 => ?_
        (conv => whnf)
        refine Nd.mk (fun w hw => ⟨hw.2.1, hw.2.2.1⟩) ?_
        (first | refine wX ?_ | exact wZ)
        refine ReadC.idx (sz := 1) 4 rfl Tryz.underlying34 rfl rfl rfl rfl hil ?_
        (first | refine wX ?_ | exact wZ)
        refine EffW.appTo (i := 2) (q := 4) (ys := [.slice (some ⟨b1, 0, none⟩) ((v 4).xs.length + 1) c1]) (vC l.length (upd v 4 ⟨(v 4).xs ++ [value], some b1, c1⟩)) 1 rfl rfl rfl rfl rfl rfl rfl (by show 4 + 1 ≤ l.length * 1; omega)
          (by have e : vlV ⟨(v 4).xs ++ [value], some b1, c1⟩ = .slice (some ⟨b1, 0, none⟩) ((v 4).xs.length + 1) c1 := by simp [vlV, at0]
              rw [← e]
              exact vC_set v _ hil) rfl ?_
        (first | refine wX ?_ | exact wZ)
        refine ⟨upd v 4 ⟨(v 4).xs ++ [value], some b1, c1⟩, fun j => upd_xs v 4 _ j, rfl, .inl ⟨?_, ?_, ?_, ?_, ?_, ?_, ?_, ?_, ?_, ?_, ?_, ?_, ?_, wkH_nil _⟩⟩ <;> first | exact wkE_refl _ | exact .inl ⟨rfl, rfl, strC_snoc _ _, rfl, by show (v 4).xs.length + 1 = ((v 4).xs ++ [value]).length; simp, rfl⟩
      · -- value: the text, at_: the place, 5: which one, 10: its entry
        (conv => whnf)
        try refine Nd.mk ⟨Nat.le_refl 1, rfl, rfl⟩ ?_
        (conv => whnf)
        refine AppN.grow 10 (strC (v 5).xs) [.string (bs value)] rfl rfl ⟨Nat.le_refl 1, ⟨by show ((v 5).xs.length + 1) * 16 ≤ _; have hv0 : (v 5).xs.length ≤ 1000000 := hv; omega, by have hv0 : (v 5).xs.length ≤ 1000000 := hv; show (v 5).xs.length + 1 < _; omega⟩, Nat.one_ne_zero⟩ fun b1 c1 h11 h12 => ?_
        (conv => whnf)
        refine Nd.mk (fun w hw => ⟨hw.2.1, hw.2.2.1⟩) ?_
        (first | refine wX ?_ | exact wZ)
        refine ReadC.idx (sz := 1) 5 rfl Tryz.underlying34 rfl rfl rfl rfl hil ?_
        (first | refine wX ?_ | exact wZ)
        refine EffW.appTo (i := 2) (q := 5) (ys := [.slice (some ⟨b1, 0, none⟩) ((v 5).xs.length + 1) c1]) (vC l.length (upd v 5 ⟨(v 5).xs ++ [value], some b1, c1⟩)) 1 rfl rfl rfl rfl rfl rfl rfl (by show 5 + 1 ≤ l.length * 1; omega)
          (by have e : vlV ⟨(v 5).xs ++ [value], some b1, c1⟩ = .slice (some ⟨b1, 0, none⟩) ((v 5).xs.length + 1) c1 := by simp [vlV, at0]
              rw [← e]
              exact vC_set v _ hil) rfl ?_
        (first | refine wX ?_ | exact wZ)
        refine ⟨upd v 5 ⟨(v 5).xs ++ [value], some b1, c1⟩, fun j => upd_xs v 5 _ j, rfl, .inl ⟨?_, ?_, ?_, ?_, ?_, ?_, ?_, ?_, ?_, ?_, ?_, ?_, ?_, wkH_nil _⟩⟩ <;> first | exact wkE_refl _ | exact .inl ⟨rfl, rfl, strC_snoc _ _, rfl, by show (v 5).xs.length + 1 = ((v 5).xs ++ [value]).length; simp, rfl⟩
      · -- value: the text, at_: the place, 6: which one, 11: its entry
        (conv => whnf)
        try refine Nd.mk ⟨Nat.le_refl 1, rfl, rfl⟩ ?_
        (conv => whnf)
        refine AppN.grow 11 (strC (v 6).xs) [.string (bs value)] rfl rfl ⟨Nat.le_refl 1, ⟨by show ((v 6).xs.length + 1) * 16 ≤ _; have hv0 : (v 6).xs.length ≤ 1000000 := hv; omega, by have hv0 : (v 6).xs.length ≤ 1000000 := hv; show (v 6).xs.length + 1 < _; omega⟩, Nat.one_ne_zero⟩ fun b1 c1 h11 h12 => ?_
        (conv => whnf)
        refine Nd.mk (fun w hw => ⟨hw.2.1, hw.2.2.1⟩) ?_
        (first | refine wX ?_ | exact wZ)
        refine ReadC.idx (sz := 1) 6 rfl Tryz.underlying34 rfl rfl rfl rfl hil ?_
        (first | refine wX ?_ | exact wZ)
        refine EffW.appTo (i := 2) (q := 6) (ys := [.slice (some ⟨b1, 0, none⟩) ((v 6).xs.length + 1) c1]) (vC l.length (upd v 6 ⟨(v 6).xs ++ [value], some b1, c1⟩)) 1 rfl rfl rfl rfl rfl rfl rfl (by show 6 + 1 ≤ l.length * 1; omega)
          (by have e : vlV ⟨(v 6).xs ++ [value], some b1, c1⟩ = .slice (some ⟨b1, 0, none⟩) ((v 6).xs.length + 1) c1 := by simp [vlV, at0]
              rw [← e]
              exact vC_set v _ hil) rfl ?_
        (first | refine wX ?_ | exact wZ)
        refine ⟨upd v 6 ⟨(v 6).xs ++ [value], some b1, c1⟩, fun j => upd_xs v 6 _ j, rfl, .inl ⟨?_, ?_, ?_, ?_, ?_, ?_, ?_, ?_, ?_, ?_, ?_, ?_, ?_, wkH_nil _⟩⟩ <;> first | exact wkE_refl _ | exact .inl ⟨rfl, rfl, strC_snoc _ _, rfl, by show (v 6).xs.length + 1 = ((v 6).xs ++ [value]).length; simp, rfl⟩
      · -- value: the text, at_: the place, 7: which one, 12: its entry
        (conv => whnf)
        try refine Nd.mk ⟨Nat.le_refl 1, rfl, rfl⟩ ?_
        (conv => whnf)
        refine AppN.grow 12 (strC (v 7).xs) [.string (bs value)] rfl rfl ⟨Nat.le_refl 1, ⟨by show ((v 7).xs.length + 1) * 16 ≤ _; have hv0 : (v 7).xs.length ≤ 1000000 := hv; omega, by have hv0 : (v 7).xs.length ≤ 1000000 := hv; show (v 7).xs.length + 1 < _; omega⟩, Nat.one_ne_zero⟩ fun b1 c1 h11 h12 => ?_
        (conv => whnf)
        refine Nd.mk (fun w hw => ⟨hw.2.1, hw.2.2.1⟩) ?_
        (first | refine wX ?_ | exact wZ)
        refine ReadC.idx (sz := 1) 7 rfl Tryz.underlying34 rfl rfl rfl rfl hil ?_
        (first | refine wX ?_ | exact wZ)
        refine EffW.appTo (i := 2) (q := 7) (ys := [.slice (some ⟨b1, 0, none⟩) ((v 7).xs.length + 1) c1]) (vC l.length (upd v 7 ⟨(v 7).xs ++ [value], some b1, c1⟩)) 1 rfl rfl rfl rfl rfl rfl rfl (by show 7 + 1 ≤ l.length * 1; omega)
          (by have e : vlV ⟨(v 7).xs ++ [value], some b1, c1⟩ = .slice (some ⟨b1, 0, none⟩) ((v 7).xs.length + 1) c1 := by simp [vlV, at0]
              rw [← e]
              exact vC_set v _ hil) rfl ?_
        (first | refine wX ?_ | exact wZ)
        refine ⟨upd v 7 ⟨(v 7).xs ++ [value], some b1, c1⟩, fun j => upd_xs v 7 _ j, rfl, .inl ⟨?_, ?_, ?_, ?_, ?_, ?_, ?_, ?_, ?_, ?_, ?_, ?_, ?_, wkH_nil _⟩⟩ <;> first | exact wkE_refl _ | exact .inl ⟨rfl, rfl, strC_snoc _ _, rfl, by show (v 7).xs.length + 1 = ((v 7).xs ++ [value]).length; simp, rfl⟩
      · omega
    | false =>
      -- the next word
      (first | refine wX ?_ | exact wZ)
      refine callG (next_c R l W at_ left true hat hW hwa) [0, 1] rfl ⟨rfl, rfl, trivial⟩ rfl fun _ _ => ?_
      cases hr : nextS W at_ true with
      | none =>
        have hG : giveK W 4 i no value false (psOf at_ v g left) = (psOf at_ v g left, 14) := by
          unfold giveK takeS
          rw [show nextS W (psOf at_ v g left).at_ (!((4 : Int) == 2)) = none from hr]
          rfl
        rw [hG]
        -- nothing is changed
        (first | refine wX ?_ | exact wZ)
        exact ⟨v, fun _ => rfl, rfl, .inl ⟨wkE_refl _, wkE_refl _, wkE_refl _, wkE_refl _, wkE_refl _, wkE_refl _, wkE_refl _, wkE_refl _, wkE_refl _, wkE_refl _, wkE_refl _, wkE_refl _, wkE_refl _, wkH_nil _⟩⟩
      | some nw =>
        have hG : giveK W 4 i no value false (psOf at_ v g left) = (⟨at_ + 1, upd (fun j => (v j).xs) i ((v i).xs ++ [nw]), g.set i (IntKind.i64.wrap (g.getD i 0 + 1)), left.xs⟩, 0) := by
          unfold giveK takeS
          rw [show nextS W (psOf at_ v g left).at_ (!((4 : Int) == 2)) = some nw from hr]
          rfl
        rw [hG]
        (first | refine wX ?_ | exact wZ)
        -- 4: the field, .slice (some ⟨R.gb, 0, none⟩) l.length l.length: the value
        refine LdN.one (a := some ⟨R.rb, 0, none⟩) (q := 4) (.slice (some ⟨R.gb, 0, none⟩) l.length l.length) rfl (fun w hw => hw.2.1) rfl ?_
        (first | refine wX ?_ | exact wZ)
        try refine Nd.mk ⟨rfl, by omega, by omega⟩ ?_
        (first | refine wX ?_ | exact wZ)
        refine LdN.one (.int .i64 (g.getD i 0)) rfl (fun w hw => hw.2.2.2.1) (by rw [Int.toNat_natCast]; show (gC g)[i * 1]? = _; rw [Nat.mul_one]; exact hgi) ?_
        (first | refine wX ?_ | exact wZ)
        try refine Nd.mk ⟨rfl, by omega, by omega⟩ ?_
        (first | refine wX ?_ | exact wZ)
        refine EffW.appTo (i := 3) (q := i) (ys := [.int .i64 (IntKind.i64.wrap (g.getD i 0 + 1))]) (gC (g.set i (IntKind.i64.wrap (g.getD i 0 + 1)))) 1 rfl
          (by rw [Int.toNat_natCast]; show AV.c (CV.v (Value.pointer (some ((⟨R.gb, 0, none⟩ : Addr).add (i * 1))))) = _; rw [add_lit0, Nat.mul_one]) rfl rfl rfl rfl rfl (by show i + 1 ≤ l.length * 1; omega) (gC_set _ (by omega)) rfl ?_
        (first | refine wX ?_ | exact wZ)
        refine DrawN.planC (fun w => SlAt (some ⟨R.rb, 0, none⟩) 6 (rC R l.length W.length (at_ + 1) left) w ∧ SlAt (some ⟨R.vb, 0, none⟩) (l.length * 1) (vC l.length v) w) [0, 5, 6, 11, 14] [(1, 2), (2, 2), (3, 2), (4, 1), (7, 2), (8, 2), (9, 2), (10, 1), (12, 1), (13, 1), (15, 0), (16, 0), (17, 1)] [(18, 0)] (by decide +kernel) (fun w hw => ⟨hw.2.1, hw.2.2.1⟩) ?_
        (first | refine wX ?_ | exact wZ)
        refine ReadC.one (a := some ⟨R.rb, 0, none⟩) (q := 3) (.slice (some ⟨R.vb, 0, none⟩) l.length l.length) rfl rfl rfl (fun w hw => hw.1) rfl ?_
        (first | refine wX ?_ | exact wZ)
        refine ReadC.one (a := some ⟨R.rb, 0, none⟩) (q := 3) (.slice (some ⟨R.vb, 0, none⟩) l.length l.length) rfl rfl rfl (fun w hw => hw.1) rfl ?_
        (first | refine wX ?_ | exact wZ)
        refine ReadC.idx (sz := 1) i rfl Tryz.underlying34 rfl rfl rfl rfl hil ?_
        (first | refine wX ?_ | exact wZ)
        refine ReadC.one (a := some ⟨R.vb, 0, none⟩) (q := i) (vlV (v i)) rfl (by show AV.c (CV.v (Value.pointer (some ⟨R.vb, i * 1, none⟩))) = AV.c (CV.v (Value.pointer (some ((⟨R.vb, 0, none⟩ : Addr).add i)))); rw [add_lit0, Nat.mul_one]) rfl (fun w hw => hw.2) (vC_get v hil) ?_
        (first | refine wX ?_ | exact wZ)
        refine Nd.mk (fun w hw => ⟨hw.2.1, hw.2.2.1⟩) ?_
        have hi8 : i < 8 := by omega
        clear hgi ho
        rcases i with _ | _ | _ | _ | _ | _ | _ | _ | i
        · -- nw: the text, (at_ + 1): the place, 0: which one, 5: its entry
          (conv => whnf)
          try refine Nd.mk ⟨Nat.le_refl 1, rfl, rfl⟩ ?_
          (conv => whnf)
          refine AppN.grow 5 (strC (v 0).xs) [.string (bs nw)] rfl rfl ⟨Nat.le_refl 1, ⟨by show ((v 0).xs.length + 1) * 16 ≤ _; have hv0 : (v 0).xs.length ≤ 1000000 := hv; omega, by have hv0 : (v 0).xs.length ≤ 1000000 := hv; show (v 0).xs.length + 1 < _; omega⟩, Nat.one_ne_zero⟩ fun b1 c1 h11 h12 => ?_
          (conv => whnf)
          refine Nd.mk (fun w hw => ⟨hw.2.1, hw.2.2.1⟩) ?_
          (first | refine wX ?_ | exact wZ)
          refine ReadC.idx (sz := 1) 0 rfl Tryz.underlying34 rfl rfl rfl rfl hil ?_
          (first | refine wX ?_ | exact wZ)
          refine EffW.appTo (i := 2) (q := 0) (ys := [.slice (some ⟨b1, 0, none⟩) ((v 0).xs.length + 1) c1]) (vC l.length (upd v 0 ⟨(v 0).xs ++ [nw], some b1, c1⟩)) 1 rfl rfl rfl rfl rfl rfl rfl (by show 0 + 1 ≤ l.length * 1; omega)
            (by have e : vlV ⟨(v 0).xs ++ [nw], some b1, c1⟩ = .slice (some ⟨b1, 0, none⟩) ((v 0).xs.length + 1) c1 := by simp [vlV, at0]
                rw [← e]
                exact vC_set v _ hil) rfl ?_
          (first | refine wX ?_ | exact wZ)
          refine ⟨upd v 0 ⟨(v 0).xs ++ [nw], some b1, c1⟩, fun j => upd_xs v 0 _ j, rfl, .inl ⟨?_, ?_, ?_, ?_, ?_, ?_, ?_, ?_, ?_, ?_, ?_, ?_, ?_, wkH_nil _⟩⟩ <;> first | exact wkE_refl _ | exact .inl ⟨rfl, rfl, strC_snoc _ _, rfl, by show (v 0).xs.length + 1 = ((v 0).xs ++ [nw]).length; simp, rfl⟩
        · -- nw: the text, (at_ + 1): the place, 1: which one, 6: its entry
          (conv => whnf)
          try refine Nd.mk ⟨Nat.le_refl 1, rfl, rfl⟩ ?_
          (conv => whnf)
          refine AppN.grow 6 (strC (v 1).xs) [.string (bs nw)] rfl rfl ⟨Nat.le_refl 1, ⟨by show ((v 1).xs.length + 1) * 16 ≤ _; have hv0 : (v 1).xs.length ≤ 1000000 := hv; omega, by have hv0 : (v 1).xs.length ≤ 1000000 := hv; show (v 1).xs.length + 1 < _; omega⟩, Nat.one_ne_zero⟩ fun b1 c1 h11 h12 => ?_
          (conv => whnf)
          refine Nd.mk (fun w hw => ⟨hw.2.1, hw.2.2.1⟩) ?_
          (first | refine wX ?_ | exact wZ)
          refine ReadC.idx (sz := 1) 1 rfl Tryz.underlying34 rfl rfl rfl rfl hil ?_
          (first | refine wX ?_ | exact wZ)
          refine EffW.appTo (i := 2) (q := 1) (ys := [.slice (some ⟨b1, 0, none⟩) ((v 1).xs.length + 1) c1]) (vC l.length (upd v 1 ⟨(v 1).xs ++ [nw], some b1, c1⟩)) 1 rfl rfl rfl rfl rfl rfl rfl (by show 1 + 1 ≤ l.length * 1; omega)
            (by have e : vlV ⟨(v 1).xs ++ [nw], some b1, c1⟩ = .slice (some ⟨b1, 0, none⟩) ((v 1).xs.length + 1) c1 := by simp [vlV, at0]
                rw [← e]
                exact vC_set v _ hil) rfl ?_
          (first | refine wX ?_ | exact wZ)
          refine ⟨upd v 1 ⟨(v 1).xs ++ [nw], some b1, c1⟩, fun j => upd_xs v 1 _ j, rfl, .inl ⟨?_, ?_, ?_, ?_, ?_, ?_, ?_, ?_, ?_, ?_, ?_, ?_, ?_, wkH_nil _⟩⟩ <;> first | exact wkE_refl _ | exact .inl ⟨rfl, rfl, strC_snoc _ _, rfl, by show (v 1).xs.length + 1 = ((v 1).xs ++ [nw]).length; simp, rfl⟩
        · -- nw: the text, (at_ + 1): the place, 2: which one, 7: its entry
          (conv => whnf)
          try refine Nd.mk ⟨Nat.le_refl 1, rfl, rfl⟩ ?_
          (conv => whnf)
          refine AppN.grow 7 (strC (v 2).xs) [.string (bs nw)] rfl rfl ⟨Nat.le_refl 1, ⟨by show ((v 2).xs.length + 1) * 16 ≤ _; have hv0 : (v 2).xs.length ≤ 1000000 := hv; omega, by have hv0 : (v 2).xs.length ≤ 1000000 := hv; show (v 2).xs.length + 1 < _; omega⟩, Nat.one_ne_zero⟩ fun b1 c1 h11 h12 => ?_
          (conv => whnf)
          refine Nd.mk (fun w hw => ⟨hw.2.1, hw.2.2.1⟩) ?_
          (first | refine wX ?_ | exact wZ)
          refine ReadC.idx (sz := 1) 2 rfl Tryz.underlying34 rfl rfl rfl rfl hil ?_
          (first | refine wX ?_ | exact wZ)
          refine EffW.appTo (i := 2) (q := 2) (ys := [.slice (some ⟨b1, 0, none⟩) ((v 2).xs.length + 1) c1]) (vC l.length (upd v 2 ⟨(v 2).xs ++ [nw], some b1, c1⟩)) 1 rfl rfl rfl rfl rfl rfl rfl (by show 2 + 1 ≤ l.length * 1; omega)
            (by have e : vlV ⟨(v 2).xs ++ [nw], some b1, c1⟩ = .slice (some ⟨b1, 0, none⟩) ((v 2).xs.length + 1) c1 := by simp [vlV, at0]
                rw [← e]
                exact vC_set v _ hil) rfl ?_
          (first | refine wX ?_ | exact wZ)
          refine ⟨upd v 2 ⟨(v 2).xs ++ [nw], some b1, c1⟩, fun j => upd_xs v 2 _ j, rfl, .inl ⟨?_, ?_, ?_, ?_, ?_, ?_, ?_, ?_, ?_, ?_, ?_, ?_, ?_, wkH_nil _⟩⟩ <;> first | exact wkE_refl _ | exact .inl ⟨rfl, rfl, strC_snoc _ _, rfl, by show (v 2).xs.length + 1 = ((v 2).xs ++ [nw]).length; simp, rfl⟩
        · -- nw: the text, (at_ + 1): the place, 3: which one, 8: its entry
          (conv => whnf)
          try refine Nd.mk ⟨Nat.le_refl 1, rfl, rfl⟩ ?_
          (conv => whnf)
          refine AppN.grow 8 (strC (v 3).xs) [.string (bs nw)] rfl rfl ⟨Nat.le_refl 1, ⟨by show ((v 3).xs.length + 1) * 16 ≤ _; have hv0 : (v 3).xs.length ≤ 1000000 := hv; omega, by have hv0 : (v 3).xs.length ≤ 1000000 := hv; show (v 3).xs.length + 1 < _; omega⟩, Nat.one_ne_zero⟩ fun b1 c1 h11 h12 => ?_
          (conv => whnf)
          refine Nd.mk (fun w hw => ⟨hw.2.1, hw.2.2.1⟩) ?_
          (first | refine wX ?_ | exact wZ)
          refine ReadC.idx (sz := 1) 3 rfl Tryz.underlying34 rfl rfl rfl rfl hil ?_
          (first | refine wX ?_ | exact wZ)
          refine EffW.appTo (i := 2) (q := 3) (ys := [.slice (some ⟨b1, 0, none⟩) ((v 3).xs.length + 1) c1]) (vC l.length (upd v 3 ⟨(v 3).xs ++ [nw], some b1, c1⟩)) 1 rfl rfl rfl rfl rfl rfl rfl (by show 3 + 1 ≤ l.length * 1; omega)
            (by have e : vlV ⟨(v 3).xs ++ [nw], some b1, c1⟩ = .slice (some ⟨b1, 0, none⟩) ((v 3).xs.length + 1) c1 := by simp [vlV, at0]
                rw [← e]
                exact vC_set v _ hil) rfl ?_
          (first | refine wX ?_ | exact wZ)
          refine ⟨upd v 3 ⟨(v 3).xs ++ [nw], some b1, c1⟩, fun j => upd_xs v 3 _ j, rfl, .inl ⟨?_, ?_, ?_, ?_, ?_, ?_, ?_, ?_, ?_, ?_, ?_, ?_, ?_, wkH_nil _⟩⟩ <;> first | exact wkE_refl _ | exact .inl ⟨rfl, rfl, strC_snoc _ _, rfl, by show (v 3).xs.length + 1 = ((v 3).xs ++ [nw]).length; simp, rfl⟩
        · -- nw: the text, (at_ + 1): the place, 4: which one, 9: its entry
          (conv => whnf)
          try refine Nd.mk ⟨Nat.le_refl 1, rfl, rfl⟩ ?_
          (conv => whnf)
          refine AppN.grow 9 (strC (v 4).xs) [.string (bs nw)] rfl rfl ⟨Nat.le_refl 1, ⟨by show ((v 4).xs.length + 1) * 16 ≤ _; have hv0 : (v 4).xs.length ≤ 1000000 := hv; omega, by have hv0 : (v 4).xs.length ≤ 1000000 := hv; show (v 4).xs.length + 1 < _; omega⟩, Nat.one_ne_zero⟩ fun b1 c1 h11 h12 => ?_
          (conv => whnf)
          refine Nd.mk (fun w hw => ⟨hw.2.1, hw.2.2.1⟩) ?_
          (first | refine wX ?_ | exact wZ)
          refine ReadC.idx (sz := 1) 4 rfl Tryz.underlying34 rfl rfl rfl rfl hil ?_
          (first | refine wX ?_ | exact wZ)
          refine EffW.appTo (i := 2) (q := 4) (ys := [.slice (some ⟨b1, 0, none⟩) ((v 4).xs.length + 1) c1]) (vC l.length (upd v 4 ⟨(v 4).xs ++ [nw], some b1, c1⟩)) 1 rfl rfl rfl rfl rfl rfl rfl (by show 4 + 1 ≤ l.length * 1; omega)
            (by have e : vlV ⟨(v 4).xs ++ [nw], some b1, c1⟩ = .slice (some ⟨b1, 0, none⟩) ((v 4).xs.length + 1) c1 := by simp [vlV, at0]
                rw [← e]
                exact vC_set v _ hil) rfl ?_
          (first | refine wX ?_ | exact wZ)
          refine ⟨upd v 4 ⟨(v 4).xs ++ [nw], some b1, c1⟩, fun j => upd_xs v 4 _ j, rfl, .inl ⟨?_, ?_, ?_, ?_, ?_, ?_, ?_, ?_, ?_, ?_, ?_, ?_, ?_, wkH_nil _⟩⟩ <;> first | exact wkE_refl _ | exact .inl ⟨rfl, rfl, strC_snoc _ _, rfl, by show (v 4).xs.length + 1 = ((v 4).xs ++ [nw]).length; simp, rfl⟩
        · -- nw: the text, (at_ + 1): the place, 5: which one, 10: its entry
          (conv => whnf)
          try refine Nd.mk ⟨Nat.le_refl 1, rfl, rfl⟩ ?_
          (conv => whnf)
          refine AppN.grow 10 (strC (v 5).xs) [.string (bs nw)] rfl rfl ⟨Nat.le_refl 1, ⟨by show ((v 5).xs.length + 1) * 16 ≤ _; have hv0 : (v 5).xs.length ≤ 1000000 := hv; omega, by have hv0 : (v 5).xs.length ≤ 1000000 := hv; show (v 5).xs.length + 1 < _; omega⟩, Nat.one_ne_zero⟩ fun b1 c1 h11 h12 => ?_
          (conv => whnf)
          refine Nd.mk (fun w hw => ⟨hw.2.1, hw.2.2.1⟩) ?_
          (first | refine wX ?_ | exact wZ)
          refine ReadC.idx (sz := 1) 5 rfl Tryz.underlying34 rfl rfl rfl rfl hil ?_
          (first | refine wX ?_ | exact wZ)
          refine EffW.appTo (i := 2) (q := 5) (ys := [.slice (some ⟨b1, 0, none⟩) ((v 5).xs.length + 1) c1]) (vC l.length (upd v 5 ⟨(v 5).xs ++ [nw], some b1, c1⟩)) 1 rfl rfl rfl rfl rfl rfl rfl (by show 5 + 1 ≤ l.length * 1; omega)
            (by have e : vlV ⟨(v 5).xs ++ [nw], some b1, c1⟩ = .slice (some ⟨b1, 0, none⟩) ((v 5).xs.length + 1) c1 := by simp [vlV, at0]
                rw [← e]
                exact vC_set v _ hil) rfl ?_
          (first | refine wX ?_ | exact wZ)
          refine ⟨upd v 5 ⟨(v 5).xs ++ [nw], some b1, c1⟩, fun j => upd_xs v 5 _ j, rfl, .inl ⟨?_, ?_, ?_, ?_, ?_, ?_, ?_, ?_, ?_, ?_, ?_, ?_, ?_, wkH_nil _⟩⟩ <;> first | exact wkE_refl _ | exact .inl ⟨rfl, rfl, strC_snoc _ _, rfl, by show (v 5).xs.length + 1 = ((v 5).xs ++ [nw]).length; simp, rfl⟩
        · -- nw: the text, (at_ + 1): the place, 6: which one, 11: its entry
          (conv => whnf)
          try refine Nd.mk ⟨Nat.le_refl 1, rfl, rfl⟩ ?_
          (conv => whnf)
          refine AppN.grow 11 (strC (v 6).xs) [.string (bs nw)] rfl rfl ⟨Nat.le_refl 1, ⟨by show ((v 6).xs.length + 1) * 16 ≤ _; have hv0 : (v 6).xs.length ≤ 1000000 := hv; omega, by have hv0 : (v 6).xs.length ≤ 1000000 := hv; show (v 6).xs.length + 1 < _; omega⟩, Nat.one_ne_zero⟩ fun b1 c1 h11 h12 => ?_
          (conv => whnf)
          refine Nd.mk (fun w hw => ⟨hw.2.1, hw.2.2.1⟩) ?_
          (first | refine wX ?_ | exact wZ)
          refine ReadC.idx (sz := 1) 6 rfl Tryz.underlying34 rfl rfl rfl rfl hil ?_
          (first | refine wX ?_ | exact wZ)
          refine EffW.appTo (i := 2) (q := 6) (ys := [.slice (some ⟨b1, 0, none⟩) ((v 6).xs.length + 1) c1]) (vC l.length (upd v 6 ⟨(v 6).xs ++ [nw], some b1, c1⟩)) 1 rfl rfl rfl rfl rfl rfl rfl (by show 6 + 1 ≤ l.length * 1; omega)
            (by have e : vlV ⟨(v 6).xs ++ [nw], some b1, c1⟩ = .slice (some ⟨b1, 0, none⟩) ((v 6).xs.length + 1) c1 := by simp [vlV, at0]
                rw [← e]
                exact vC_set v _ hil) rfl ?_
          (first | refine wX ?_ | exact wZ)
          refine ⟨upd v 6 ⟨(v 6).xs ++ [nw], some b1, c1⟩, fun j => upd_xs v 6 _ j, rfl, .inl ⟨?_, ?_, ?_, ?_, ?_, ?_, ?_, ?_, ?_, ?_, ?_, ?_, ?_, wkH_nil _⟩⟩ <;> first | exact wkE_refl _ | exact .inl ⟨rfl, rfl, strC_snoc _ _, rfl, by show (v 6).xs.length + 1 = ((v 6).xs ++ [nw]).length; simp, rfl⟩
        · -- nw: the text, (at_ + 1): the place, 7: which one, 12: its entry
          (conv => whnf)
          try refine Nd.mk ⟨Nat.le_refl 1, rfl, rfl⟩ ?_
          (conv => whnf)
          refine AppN.grow 12 (strC (v 7).xs) [.string (bs nw)] rfl rfl ⟨Nat.le_refl 1, ⟨by show ((v 7).xs.length + 1) * 16 ≤ _; have hv0 : (v 7).xs.length ≤ 1000000 := hv; omega, by have hv0 : (v 7).xs.length ≤ 1000000 := hv; show (v 7).xs.length + 1 < _; omega⟩, Nat.one_ne_zero⟩ fun b1 c1 h11 h12 => ?_
          (conv => whnf)
          refine Nd.mk (fun w hw => ⟨hw.2.1, hw.2.2.1⟩) ?_
          (first | refine wX ?_ | exact wZ)
          refine ReadC.idx (sz := 1) 7 rfl Tryz.underlying34 rfl rfl rfl rfl hil ?_
          (first | refine wX ?_ | exact wZ)
          refine EffW.appTo (i := 2) (q := 7) (ys := [.slice (some ⟨b1, 0, none⟩) ((v 7).xs.length + 1) c1]) (vC l.length (upd v 7 ⟨(v 7).xs ++ [nw], some b1, c1⟩)) 1 rfl rfl rfl rfl rfl rfl rfl (by show 7 + 1 ≤ l.length * 1; omega)
            (by have e : vlV ⟨(v 7).xs ++ [nw], some b1, c1⟩ = .slice (some ⟨b1, 0, none⟩) ((v 7).xs.length + 1) c1 := by simp [vlV, at0]
                rw [← e]
                exact vC_set v _ hil) rfl ?_
          (first | refine wX ?_ | exact wZ)
          refine ⟨upd v 7 ⟨(v 7).xs ++ [nw], some b1, c1⟩, fun j => upd_xs v 7 _ j, rfl, .inl ⟨?_, ?_, ?_, ?_, ?_, ?_, ?_, ?_, ?_, ?_, ?_, ?_, ?_, wkH_nil _⟩⟩ <;> first | exact wkE_refl _ | exact .inl ⟨rfl, rfl, strC_snoc _ _, rfl, by show (v 7).xs.length + 1 = ((v 7).xs ++ [nw]).length; simp, rfl⟩
        · omega
  · cases has with
    | true =>
      have hG : giveK W 5 i no value true (psOf at_ v g left) = (psOf at_ v g left, 4) := rfl
      rw [hG]
      -- nothing is changed
      (first | refine wX ?_ | exact wZ)
      exact ⟨v, fun _ => rfl, rfl, .inl ⟨wkE_refl _, wkE_refl _, wkE_refl _, wkE_refl _, wkE_refl _, wkE_refl _, wkE_refl _, wkE_refl _, wkE_refl _, wkE_refl _, wkE_refl _, wkE_refl _, wkE_refl _, wkH_nil _⟩⟩
    | false =>
      have hG : giveK W 5 i no value false (psOf at_ v g left) = (⟨at_, upd (fun j => (v j).xs) i [if no then falseL else trueL], g.set i (IntKind.i64.wrap (g.getD i 0 + 1)), left.xs⟩, 0) := rfl
      rw [hG]
      (first | refine wX ?_ | exact wZ)
      -- 4: the field, .slice (some ⟨R.gb, 0, none⟩) l.length l.length: the value
      refine LdN.one (a := some ⟨R.rb, 0, none⟩) (q := 4) (.slice (some ⟨R.gb, 0, none⟩) l.length l.length) rfl (fun w hw => hw.2.1) rfl ?_
      (first | refine wX ?_ | exact wZ)
      try refine Nd.mk ⟨rfl, by omega, by omega⟩ ?_
      (first | refine wX ?_ | exact wZ)
      refine LdN.one (.int .i64 (g.getD i 0)) rfl (fun w hw => hw.2.2.2.1) (by rw [Int.toNat_natCast]; show (gC g)[i * 1]? = _; rw [Nat.mul_one]; exact hgi) ?_
      (first | refine wX ?_ | exact wZ)
      try refine Nd.mk ⟨rfl, by omega, by omega⟩ ?_
      (first | refine wX ?_ | exact wZ)
      refine EffW.appTo (i := 3) (q := i) (ys := [.int .i64 (IntKind.i64.wrap (g.getD i 0 + 1))]) (gC (g.set i (IntKind.i64.wrap (g.getD i 0 + 1)))) 1 rfl
        (by rw [Int.toNat_natCast]; show AV.c (CV.v (Value.pointer (some ((⟨R.gb, 0, none⟩ : Addr).add (i * 1))))) = _; rw [add_lit0, Nat.mul_one]) rfl rfl rfl rfl rfl (by show i + 1 ≤ l.length * 1; omega) (gC_set _ (by omega)) rfl ?_
      cases no with
      | true =>
        -- falseL: the text; the new slice is known
        (first | refine wX ?_ | exact wZ)
        -- 3: the field, .slice (some ⟨R.vb, 0, none⟩) l.length l.length: the value
        refine LdN.one (a := some ⟨R.rb, 0, none⟩) (q := 3) (.slice (some ⟨R.vb, 0, none⟩) l.length l.length) rfl (fun w hw => hw.2.1) rfl ?_
        ((conv => whnf); (repeat ((first | refine BoxN.own ?_ | refine VrN.norm (wrap_i64 (by omega)) ?_ | refine VrN.keep ?_ | refine DrawN.calm (by decide +kernel) ?_ | refine Nd.mk (by decide +kernel) ?_ | refine Nd.mk (by omega) ?_ | (refine Nd.mk ?_ ?_; focus ((repeat' (first | exact trivial | exact wkE_refl _ | refine And.intro ?_ ?_)); done)) | refine RdN.intro _ rfl (by rfl) ?_); (conv => whnf))))
        refine RwN.known [_] rfl fun nb => ?_
        (first | refine wX ?_ | exact wZ)
        try refine Nd.mk ⟨rfl, by omega, by omega⟩ ?_
        (first | refine wX ?_ | exact wZ)
        refine EffW.appTo (i := 2) (q := i) (ys := [vlV ⟨[falseL], some nb, 1⟩]) (vC l.length (upd v i ⟨[falseL], some nb, 1⟩)) 1 rfl
          (by rw [Int.toNat_natCast]; show AV.c (CV.v (Value.pointer (some ((⟨R.vb, 0, none⟩ : Addr).add (i * 1))))) = _; rw [add_lit0, Nat.mul_one]) rfl rfl rfl rfl rfl (by show i + 1 ≤ l.length * 1; omega) (vC_set v _ hil) rfl ?_
        (first | refine wX ?_ | exact wZ)
        refine ⟨upd v i ⟨[falseL], some nb, 1⟩, fun j => upd_xs v i _ j, rfl, .inr ⟨5 + i, 13, ?_⟩⟩
        have hi8 : i < 8 := by omega
        clear hgi ho hil
        rcases i with _ | _ | _ | _ | _ | _ | _ | _ | i <;> first | exact ⟨rfl, rfl, rfl, wkE_refl _, wkE_refl _, wkE_refl _, wkE_refl _, wkE_refl _, wkE_refl _, wkE_refl _, wkE_refl _, wkE_refl _, wkE_refl _, wkE_refl _, wkE_refl _, wkE_refl _, wkH_nil _⟩ | omega
      | false =>
        -- trueL: the text; the new slice is known
        (first | refine wX ?_ | exact wZ)
        -- 3: the field, .slice (some ⟨R.vb, 0, none⟩) l.length l.length: the value
        refine LdN.one (a := some ⟨R.rb, 0, none⟩) (q := 3) (.slice (some ⟨R.vb, 0, none⟩) l.length l.length) rfl (fun w hw => hw.2.1) rfl ?_
        ((conv => whnf); (repeat ((first | refine BoxN.own ?_ | refine VrN.norm (wrap_i64 (by omega)) ?_ | refine VrN.keep ?_ | refine DrawN.calm (by decide +kernel) ?_ | refine Nd.mk (by decide +kernel) ?_ | refine Nd.mk (by omega) ?_ | (refine Nd.mk ?_ ?_; focus ((repeat' (first | exact trivial | exact wkE_refl _ | refine And.intro ?_ ?_)); done)) | refine RdN.intro _ rfl (by rfl) ?_); (conv => whnf))))
        refine RwN.known [_] rfl fun nb => ?_
        (first | refine wX ?_ | exact wZ)
        try refine Nd.mk ⟨rfl, by omega, by omega⟩ ?_
        (first | refine wX ?_ | exact wZ)
        refine EffW.appTo (i := 2) (q := i) (ys := [vlV ⟨[trueL], some nb, 1⟩]) (vC l.length (upd v i ⟨[trueL], some nb, 1⟩)) 1 rfl
          (by rw [Int.toNat_natCast]; show AV.c (CV.v (Value.pointer (some ((⟨R.vb, 0, none⟩ : Addr).add (i * 1))))) = _; rw [add_lit0, Nat.mul_one]) rfl rfl rfl rfl rfl (by show i + 1 ≤ l.length * 1; omega) (vC_set v _ hil) rfl ?_
        (first | refine wX ?_ | exact wZ)
        refine ⟨upd v i ⟨[trueL], some nb, 1⟩, fun j => upd_xs v i _ j, rfl, .inr ⟨5 + i, 13, ?_⟩⟩
        have hi8 : i < 8 := by omega
        clear hgi ho hil
        rcases i with _ | _ | _ | _ | _ | _ | _ | _ | i <;> first | exact ⟨rfl, rfl, rfl, wkE_refl _, wkE_refl _, wkE_refl _, wkE_refl _, wkE_refl _, wkE_refl _, wkE_refl _, wkE_refl _, wkE_refl _, wkE_refl _, wkE_refl _, wkE_refl _, wkE_refl _, wkH_nil _⟩ | omega
end Go.Proofs.YteljlkkppaobeaaGreatDoor

/-
  Plain: what is found lies among the options; how much is added.
-/
namespace Go.Opts
theorem fold_at (name : List UInt8) : ∀ (l : List (Nat × Bool × List UInt8)) (h : Hit), ((foldF name l h).hits = h.hits ∧ (foldF name l h).at_ = h.at_) ∨ ∃ f ∈ l, (foldF name l h).at_ = f.1
  | [], h => .inl ⟨rfl, rfl⟩
  | f :: l, h => by
    unfold foldF
    have h1 : ((form1 f.1 f.2.1 f.2.2 name h).hits = h.hits ∧ (form1 f.1 f.2.1 f.2.2 name h).at_ = h.at_) ∨ (form1 f.1 f.2.1 f.2.2 name h).at_ = f.1 := by
      unfold form1
      split
      · exact .inl ⟨rfl, rfl⟩
      split
      · exact .inl ⟨rfl, rfl⟩
      split
      · exact .inr rfl
      · exact .inl ⟨rfl, rfl⟩
    rcases fold_at name l (form1 f.1 f.2.1 f.2.2 name h) with ⟨a, b⟩ | ⟨g, hg, hb⟩
    · rcases h1 with ⟨c, d⟩ | c
      · exact .inl ⟨a.trans c, b.trans d⟩
      · exact .inr ⟨f, List.mem_cons_self .., b.trans c⟩
    · exact .inr ⟨g, List.mem_cons_of_mem _ hg, hb⟩
theorem find_lt {l : List Opt} {name : List UInt8} (h : (findS l name).2.2 = 0) : (findS l name).1 < l.length := by
  unfold findS at h ⊢
  simp only at h ⊢
  rw [hitS_fold] at h ⊢
  have hfull := (fold_full name (formsL 0 l) ⟨none, 0, false, 0⟩ rfl).1
  have hat := fold_at name (formsL 0 l) ⟨none, 0, false, 0⟩
  generalize foldF name (formsL 0 l) ⟨none, 0, false, 0⟩ = g at *
  have lt : ∀ f ∈ formsL 0 l, f.1 < l.length := fun f hf => by
    obtain ⟨o, _, h2, _⟩ := forms_mem _ _ _ hf
    rw [Nat.sub_zero] at h2
    exact (List.getElem?_eq_some_iff.1 h2).1
  cases hg : g.full with
  | some p =>
    obtain ⟨i, b⟩ := p
    exact lt _ (hfull _ hg)
  | none =>
    rw [hg] at h
    simp only at h ⊢
    split at h
    · cases h
    rename_i h0
    rw [if_neg h0]
    split at h
    · rename_i h1
      rw [if_pos h1]
      rcases hat with ⟨a, _⟩ | ⟨f, hf, ha⟩
      · exact absurd a h0
      · show g.at_ < _
        rw [ha]
        exact lt f hf
    · cases h
theorem shortI_lt (c : UInt8) : ∀ (l : List Opt) (i : Nat), shortI c l i < 0 ∨ ((i : Int) ≤ shortI c l i ∧ shortI c l i < i + l.length)
  | [], _ => .inl (by unfold shortI; decide)
  | o :: l, i => by
    unfold shortI
    split
    · exact .inr ⟨by omega, by rw [List.length_cons]; omega⟩
    · rcases shortI_lt c l (i + 1) with h | h
      · exact .inl h
      · exact .inr ⟨by omega, by rw [List.length_cons]; omega⟩
theorem upd_grow {f : Nat → List (List UInt8)} {i : Nat} {x : List (List UInt8)} {n : Nat} (h : ∀ j, (f j).length ≤ n) (hx : x.length ≤ n + 1) (j : Nat) : (upd f i x j).length ≤ n + 1 := by
  unfold upd
  cases Nat.beq j i with
  | true => exact hx
  | false => exact Nat.le_succ_of_le (h j)
theorem give_grow {l : List Opt} {W : List (List UInt8)} {i : Nat} {no : Bool} {value : List UInt8} {has : Bool} {s : PS} {n : Nat} (h : ∀ j, (s.vals j).length ≤ n) (j : Nat) : ((giveS l W i no value has s).1.vals j).length ≤ n + 1 := by
  unfold giveS giveK
  split
  · exact Nat.le_succ_of_le (h j)
  split
  · exact Nat.le_succ_of_le (h j)
  split
  · exact Nat.le_succ_of_le (h j)
  · show (putS _ _ _ _ _ j).length ≤ _
    unfold putS
    split
    · exact Nat.le_succ_of_le (h j)
    split
    · exact upd_grow h (by have := h i; simp; omega) j
    split
    · exact upd_grow h (by simp) j
    · exact upd_grow h (by simp) j
theorem short_grow {l : List Opt} {W : List (List UInt8)} : ∀ {cs : List UInt8} {s : PS} {n : Nat}, (∀ j, (s.vals j).length ≤ n) → ∀ j, ((shortS l W cs s).1.vals j).length ≤ n + cs.length
  | [], s, n, h, j => h j
  | c :: r, s, n, h, j => by
    unfold shortS
    rw [List.length_cons]
    split
    · exact Nat.le_trans (h j) (by omega)
    simp only
    have hg := give_grow (l := l) (W := W) (i := (shortI c l 0).toNat) (no := false) (value := r) (has := takesB (kindAt l (shortI c l 0).toNat) && r != []) h
    generalize giveS l W (shortI c l 0).toNat false r (takesB (kindAt l (shortI c l 0).toNat) && r != []) s = g at *
    obtain ⟨s1, e⟩ := g
    simp only
    split
    · split
      · exact Nat.le_trans (hg j) (by omega)
      · have := short_grow (l := l) (W := W) (cs := r) (s := s1) (n := n + 1) hg j
        omega
    · exact Nat.le_trans (hg j) (by omega)
theorem long_grow {l : List Opt} {W : List (List UInt8)} {w : List UInt8} {s : PS} {n : Nat} (h : ∀ j, (s.vals j).length ≤ n) (j : Nat) : ((longS l W w s).1.vals j).length ≤ n + 1 := by
  unfold longS
  simp only
  split
  · exact give_grow h j
  · exact Nat.le_succ_of_le (h j)
theorem step_grow {l : List Opt} {W : List (List UInt8)} {stop : Bool} {w : List UInt8} {s : PS} {n : Nat} (h : ∀ j, (s.vals j).length ≤ n) (j : Nat) : ((stepS l W stop w s).1.vals j).length ≤ n + (w.length + 1) := by
  unfold stepS
  simp only
  split
  · exact Nat.le_trans (h j) (by omega)
  split
  · have := long_grow (l := l) (W := W) (w := w) (s := { s with at_ := s.at_ + 1 }) (n := n) h j
    omega
  split
  · have := short_grow (l := l) (W := W) (cs := w.drop 1) (s := { s with at_ := s.at_ + 1 }) (n := n) h j
    rw [List.length_drop] at this
    omega
  split
  · exact Nat.le_trans (h j) (by omega)
  · exact Nat.le_trans (h j) (by omega)
end Go.Opts

/-
  Contracts: long, short (program).
-/
namespace Go.Proofs.YteljlkkppaobeaaGreatDoor
open Go.AX Go.RowKit Go.Opts
set_option maxRecDepth 20000

/-- What stays as it is while words are read. -/
structure RdOk (R : RL) (l : List Opt) (W : List (List UInt8)) : Prop where
  kinds : ∀ o ∈ l, 0 ≤ o.kind ∧ o.kind ≤ 5
  names : ∀ o ∈ l, o.name.length ≤ 1000000000
  n8 : l.length ≤ 8
  words : W.length ≤ 100000
  wa : R.wa = none → W = []
  la : R.la = none → l = []
set_option maxHeartbeats 1000000 in
theorem long_c (R : RL) (l : List Opt) (W : List (List UInt8)) (at_ : Nat) (v : Nat → VL) (g : List Int) (left : VL) (word : List UInt8) (ok : RdOk R l W) (hg : g.length = l.length) (hat : at_ ≤ W.length) (hv : ∀ j, (v j).xs.length ≤ 1000000) (hw2 : 2 ≤ word.length) (hw3 : word.length ≤ 1000000) :
    SpecH Tryz.prog 28 [.c (.v (.pointer (some ⟨R.rb, 0, none⟩))), .c (.v (.string (bs word)))] (rdH R l W at_ v g left)
      (RetG (ι := Nat → VL) (fun v' => ∀ j, (v' j).xs = (longS l W word (psOf at_ v g left)).1.vals j) (fun _ => .int .i64 (longS l W word (psOf at_ v g left)).2)
        fun v' => rdH R l W (longS l W word (psOf at_ v g left)).1.at_ v' (longS l W word (psOf at_ v g left)).1.given left) := by
  refine ownC hm Tryz.func28 (by kernel_rfl) rfl rfl (fun _ _ => okHB_eq rfl) (fun _ _ => Nat.le_refl _) ?_
  have hz := bs_size word
  unfold longS
  simp only
  (first | refine wX ?_ | exact wZ)
  refine ReadW.sl_l 2 rfl Tryz.underlying9 rfl rfl ⟨rfl, hw2⟩ ?_
  (first | refine wX ?_ | exact wZ)
  rw [show (⟨#[61]⟩ : ByteArray) = bs [61] from rfl]
  refine call1 (Cut_c (word.drop 2) [61] (by rw [List.length_drop]; omega) _ (fun w hw => hw.1.2.2)) ?_
  generalize Lib.cut (word.drop 2) [61] = c
  obtain ⟨nm, vl, hs⟩ := c
  (first | refine wX ?_ | exact wZ)
  -- 0: the field, .slice R.la l.length R.lc: the value
  refine LdN.one (a := some ⟨R.rb, 0, none⟩) (q := 0) (.slice R.la l.length R.lc) rfl (fun w hw => hw.2.1) rfl ?_
  (first | refine wX ?_ | exact wZ)
  refine call1 (find_c R.la R.lc l nm ok.la (Nat.le_trans ok.n8 (by decide)) ok.names _ (fun w hw => hw.1.1)) ?_
  have hlt := find_lt (l := l) (name := nm)
  generalize findS l nm = f at *
  obtain ⟨i, no, e⟩ := f
  (first | refine wX ?_ | exact wZ)
  refine brd_ne (fun h1 => ?_) (fun h1 => ?_)
  · rw [if_neg h1]
    (first | refine wX ?_ | exact wZ)
    exact ⟨v, fun _ => rfl, rfl, wkE_refl _, wkE_refl _, wkE_refl _, wkE_refl _, wkE_refl _, wkE_refl _, wkE_refl _, wkE_refl _, wkE_refl _, wkE_refl _, wkE_refl _, wkE_refl _, wkE_refl _, wkH_nil _⟩
  · have he : e = 0 := h1
    rw [if_pos he]
    obtain ⟨o, ho⟩ : ∃ o, l[i]? = some o := ⟨_, List.getElem?_eq_getElem (hlt he)⟩
    have hmo := List.mem_of_getElem? ho
    (first | refine wX ?_ | exact wZ)
    refine callG (give_c R l W at_ v g left i no vl hs o ho (ok.kinds o hmo) ok.n8 hg hat ok.words ok.wa ok.la (hv i)) [0, 1, 2, 3, 4, 5, 6, 7, 8, 9, 10, 11, 12] rfl ⟨rfl, rfl, rfl, rfl, rfl, rfl, rfl, rfl, rfl, rfl, rfl, rfl, rfl, trivial⟩ rfl fun v' hv' => ?_
    (first | refine wX ?_ | exact wZ)
    exact ⟨v', hv', rfl, wkE_refl _, wkE_refl _, wkE_refl _, wkE_refl _, wkE_refl _, wkE_refl _, wkE_refl _, wkE_refl _, wkE_refl _, wkE_refl _, wkE_refl _, wkE_refl _, wkE_refl _, wkH_nil _⟩
/-- The word and the place that the closure sees. -/
def ShF (wb kb : Nat) (word : List UInt8) (k : Nat) (w : World) : Prop := SlAt (some ⟨wb, 0, none⟩) 1 [.string (bs word)] w ∧ SlAt (some ⟨kb, 0, none⟩) 1 [.int .i64 (k : Int)] w
theorem short1_c (wb kb : Nat) (word : List UInt8) (k : Nat) (c : UInt8) (hc : word[k]? = some c) (o : Opt) : ∀ H, (∀ w, Facts H w → ShF wb kb word k w) → SpecH Tryz.prog 44 (pvs [optV o, .pointer (some ⟨wb, 0, none⟩), .pointer (some ⟨kb, 0, none⟩)]) H (Ret (.bool (o.short == c)) H) := by
  refine factC hm Tryz.func44 (by kernel_rfl) rfl rfl ?_
  have hz := bs_size word
  have hk := (List.getElem?_eq_some_iff.1 hc).1
  (first | refine wX ?_ | exact wZ)
  refine LdN.one (a := some ⟨wb, 0, none⟩) (q := 0) (.string (bs word)) rfl (fun w hw => hw.1.1) rfl ?_
  (first | refine wX ?_ | exact wZ)
  refine LdN.one (a := some ⟨kb, 0, none⟩) (q := 0) (.int .i64 (k : Int)) rfl (fun w hw => hw.1.2) rfl ?_
  (first | refine wX ?_ | exact wZ)
  rw [Int.toNat_natCast, byteAt_get hc, u8_beq]
theorem shortI_idx (c : UInt8) : ∀ (l : List Opt) (i : Nat), idx (fun o => o.short == c) l i = shortI c l i
  | [], _ => rfl
  | o :: l, i => by
    unfold idx shortI
    rw [shortI_idx c l (i + 1)]
theorem short_drop (l : List Opt) (W : List (List UInt8)) (word : List UInt8) (k : Nat) {c : UInt8} (hc : word[k]? = some c) (s : PS) : shortS l W (word.drop k) s = if shortI c l 0 < 0 ∨ c = 0 then (s, 6) else
      match giveS l W (shortI c l 0).toNat false (word.drop (k + 1)) (takesB (kindAt l (shortI c l 0).toNat) && word.drop (k + 1) != []) s with
      | (s', e) => if e = 0 then (if takesB (kindAt l (shortI c l 0).toNat) then (s', 0) else shortS l W (word.drop (k + 1)) s') else (s', e) := by
  obtain ⟨hlt, hx⟩ := List.getElem?_eq_some_iff.1 hc
  rw [List.drop_eq_getElem_cons hlt, hx]
  rfl
end Go.Proofs.YteljlkkppaobeaaGreatDoor
