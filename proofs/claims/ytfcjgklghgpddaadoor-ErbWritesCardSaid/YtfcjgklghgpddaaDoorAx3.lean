/-
  AX, third text: every operation that only reads.
-/
import Derived.Test.YtfcjgklghgpddaaDoorAx2
import Derived.Laws.Strings
import Derived.Laws.Strings2
import Derived.Laws.StructEq
namespace Go.AX

theorem fieldOff_spec {P : Program} {T : TypeId} {f fo : Nat} (h : fieldOff P T f = some fo) (w : World) (p : Addr) :
    (Instr.fieldAt T (.pointer (some p)) f).run P w = .ok (.pointer (some (p.add fo))) w := by
  unfold fieldOff at h
  split at h
  · rename_i fs hfs
    split at h
    · rename_i fd hfd
      split at h
      · rename_i i hi
        cases hb : Nat.beq i.size 0 with
        | true => rw [hb] at h; cases h
        | false =>
          rw [hb] at h
          simp only [cond_false, Option.some.injEq] at h
          subst h
          have hne : ¬ i.size = 0 := fun e => by rw [e] at hb; cases hb
          simp [Instr.fieldAt, run_underlying hfs, hfd, Instr.sureAddr, fieldPlace, sizeOf, typeInfo, hi, hne]
      · cases h
    · cases h
  · cases h

theorem add_lit (b off n : Nat) : (⟨b, off, none⟩ : Addr).add n = ⟨b, off + n, none⟩ := by
  unfold Addr.add; split <;> simp_all

theorem nthV_eq : ∀ (H : List Value) (i : Nat), nthV H i = H[i]?
  | [], _ => by simp [nthV]
  | _ :: _, 0 => by simp [nthV]
  | _ :: H, i + 1 => by simp [nthV, nthV_eq H i]

theorem run_part_scalar {P : Program} {T : TypeId} {d : TypeDesc} (hd : P.underlying T = some d) (hf : isAggD d = false) (cs : Array Value) (off : Nat) (v : Value) (hv : cs.toList[off]? = some v) (w : World) :
    (part T cs off).run P w = .ok v w := by
  unfold part
  rw [Sem.run_bind, run_isAgg hd, hf]
  have : cs[off]? = some v := by simpa using hv
  simp [this]

theorem eqFs_run {P : Program} {d : Nat} {xs ys : Array Value} : ∀ (fs : List Field) (t : Bool), eqFs P xs.toList ys.toList fs = some t → (fs.all fun f => f.name != "_") = true → ∀ w, (Op.eqFields (d + 1) xs ys fs).run P w = .ok t w
  | [], t, h, _, w => by simp [eqFs] at h; subst h; rfl
  | f :: fs, t, h, hn, w => by
    simp only [List.all_cons, Bool.and_eq_true, bne_iff_ne, ne_eq] at hn
    have step : ∀ (dd : TypeDesc) (x y : Value) (e r : Bool), P.underlying f.type = some dd → isAggD dd = false → xs.toList[f.offset]? = some x → ys.toList[f.offset]? = some y →
        (∀ w, (Op.equalIn (d + 1) f.type x y).run P w = .ok e w) → eqFs P xs.toList ys.toList fs = some r → t = (e && r) → (Op.eqFields (d + 1) xs ys (f :: fs)).run P w = .ok t w := by
      intro dd x y e r hd hag hx hy he hr ht
      have ih := eqFs_run (d := d) fs r hr hn.2 w
      unfold Op.eqFields
      simp only [ne_eq, hn.1, not_false_eq_true, if_true, Sem.run_bind, run_part_scalar hd hag xs f.offset x hx, run_part_scalar hd hag ys f.offset y hy, he, Result.andThen_ok]
      subst ht
      cases e
      · rfl
      · simpa using ih
    unfold eqFs at h
    simp only [nthV_eq] at h
    split at h
    · rename_i kk j a k b hd hx hy
      split at h
      · rename_i hjk
        subst hjk
        split at h
        · rename_i r hr
          simp only [Option.some.injEq] at h
          exact step _ _ _ _ r hd rfl hx hy (fun w => run_equalIn_int w d f.type j _ a b hd) hr h.symm
        · cases h
      · cases h
    · rename_i a b hd hx hy
      split at h
      · rename_i r hr
        simp only [Option.some.injEq] at h
        exact step _ _ _ _ r hd rfl hx hy (fun w => run_equalIn_bool' w d f.type a b hd) hr h.symm
      · cases h
    · rename_i a b hd hx hy
      split at h
      · rename_i r hr
        simp only [Option.some.injEq] at h
        exact step _ _ _ _ r hd rfl hx hy (fun w => by rw [run_equalIn_string w d f.type a b hd, ByteArray.toList_eq, ByteArray.toList_eq]) hr h.symm
      · cases h
    · cases h

theorem execOp_bin {P : Program} {o : Oper} {ev : Operand → Value} {w : World} {op : BinOp} {T U : TypeId} {x y : Operand} {v : Value} (ho : o.op = .binOp op T x y U)
    (hg : (eqGuard op T x y (ev x) (ev y)).run P w = .ok () w) (hb : (binOp op T (ev x) (ev y)).run P w = .ok v w) : (execOp ev o).run P w = .ok (.value v) w := by
  unfold execOp
  simp only [ho, Sem.run_bind, hg, hb, Result.andThen_ok, Sem.run_pure]

theorem aggBin_sound {P : Program} {o : Oper} {s : List AV} {H : List Ent} {K : AV → Prop} {op : BinOp} {T U : TypeId} {x y : Operand} {a b : Array Value}
    (ho : o.op = .binOp op T x y U) (hx : opv s x = .c (.v (.agg a))) (hy : opv s y = .c (.v (.agg b))) (h : aggBin P op T a b K) : ∃ av, K av ∧ Reads P o s H av := by
  unfold aggBin at h
  split at h
  · rename_i fs hfs
    split at h
    · rename_i t ht
      have key : eqOk P T fs = true → ∀ (ρ : List Loc) (S : Nat → Prop) (w : World) (ac : Act), Sat ρ S H w → RelS ρ s ac.tmps.toList →
          ac.eval x = .agg a ∧ ac.eval y = .agg b ∧ (eqGuard op T x y (ac.eval x) (ac.eval y)).run P w = .ok () w ∧ (Op.equalIn 10000 T (.agg a) (.agg b)).run P w = .ok t w := by
        intro hok ρ S w ac _ hr
        have h1 := opv_rel hr x
        have h2 := opv_rel hr y
        rw [hx] at h1; rw [hy] at h2
        have e1 : ac.eval x = .agg a := h1
        have e2 : ac.eval y = .agg b := h2
        simp only [eqOk, Bool.and_eq_true, Bool.not_eq_true'] at hok
        refine ⟨e1, e2, by rw [e1, e2]; exact run_eqGuard_agg w op T x y a b hok.1.1, ?_⟩
        have hF : P.fieldsOf T = fs := by unfold Program.fieldsOf; rw [hfs]
        rw [show (10000 : Nat) = 9998 + 1 + 1 from rfl, run_equalIn_agg w _ T a b (by rw [hF]; exact hfs) hok.1.2, hF]
        exact eqFs_run fs.toList t ht hok.2 w
      split at h
      · obtain ⟨hok, h⟩ := h
        refine ⟨_, h, fun ρ S w ac hs hr => ?_⟩
        obtain ⟨e1, e2, hg, he⟩ := key hok ρ S w ac hs hr
        refine ⟨_, execOp_bin (v := .bool t) ho hg ?_, rfl⟩
        rw [e1, e2, run_eql_struct, he]; rfl
      · obtain ⟨hok, h⟩ := h
        refine ⟨_, h, fun ρ S w ac hs hr => ?_⟩
        obtain ⟨e1, e2, hg, he⟩ := key hok ρ S w ac hs hr
        refine ⟨_, execOp_bin (v := .bool (!t)) ho hg ?_, rfl⟩
        rw [e1, e2, run_neq_struct, he]; rfl
      · exact h.elim
    · exact h.elim
  · exact h.elim

theorem strBin_sound {P : Program} {o : Oper} {s : List AV} {H : List Ent} {K : AV → Prop} {op : BinOp} {T U : TypeId} {x y : Operand} {a b : ByteArray}
    (ho : o.op = .binOp op T x y U) (hx : opv s x = .c (.v (.string a))) (hy : opv s y = .c (.v (.string b))) (h : strBin op a b K) : ∃ av, K av ∧ Reads P o s H av := by
  have key : ∀ v, K (.c (.v v)) → (∀ w, (Op.stringOp op a b).run P w = .ok v w) → (binOp op T (.string a) (.string b) = Op.stringOp op a b) → ∃ av, K av ∧ Reads P o s H av := by
    intro v hK hrun hb
    refine ⟨_, hK, fun ρ S w ac _ hr => ⟨v, ?_, rfl⟩⟩
    have h1 := opv_rel hr x
    have h2 := opv_rel hr y
    rw [hx] at h1; rw [hy] at h2
    have e1 : ac.eval x = .string a := h1
    have e2 : ac.eval y = .string b := h2
    refine execOp_bin ho ?_ ?_
    · rw [e1, e2]; cases op <;> rfl
    · rw [e1, e2, hb]; exact hrun w
  unfold strBin at h
  split at h
  · obtain ⟨hs, h⟩ := h
    refine key _ h (fun w => ?_) rfl
    have : ¬ (((a.size + b.size : Nat) : Int) > IntKind.i64.max) := by simp [IntKind.max, IntKind.signed, IntKind.bits]; omega
    unfold Op.stringOp
    simp only [if_neg this, Sem.run_pure]
  all_goals first
    | exact h.elim
    | exact key _ h (fun w => by simp [Op.stringOp, ByteArray.toList_eq]) rfl
end Go.AX
