/-
  AX, twentieth text: parts of strings, bytes as a string, stores into a slice that grows.
-/
import Derived.Test.YtfcjgklghgpddaaDoorAx19
import Derived.Laws.IdiomStrings
namespace Go.AX
open Go.RowKit

theorem ReadW.val {P : Program} {o : Oper} {s : List AV} {H : List Ent} {K : AV → Prop} (x : Value) (hsel : ∀ cs b, o.op ≠ .select cs b) (hp : allPlain s o.op.operands.toList = true)
    (ok : ∀ w, Facts H w → (execOp (plainEv s) o).run P w = .ok (.value x) w) (hk : K (.c (.v x))) : ReadW P o s H K :=
  ⟨_, hk, fun ρ S w a hs hr => ⟨x, by rw [execOp_congr o hsel (ρ' := plainEv s) fun x hx => allPlain_eval hr _ hp x (Array.mem_toList_iff.2 hx)]; exact ok w hs.facts, rfl⟩⟩

theorem plainEv_v {s : List AV} {x : Operand} {v : Value} (h : opv s x = .c (.v v)) : plainEv s x = v := by simp [plainEv, h]
theorem run_op_slice {P : Program} {o : Oper} {ev : Operand → Value} {t : TypeId} {x : Operand} {lo hi mx : Option Operand} {r : Value} {w : World} (ho : o.op = .slice t x lo hi mx)
    (h : (Instr.sliceAt t (ev x) (lo.map ev) (hi.map ev) (mx.map ev)).run P w = .ok r w) : (execOp ev o).run P w = .ok (.value r) w := by
  unfold execOp; simp only [ho, Sem.run_bind, h, Result.andThen_ok, Sem.run_pure]
theorem run_slice_string_lh {P : Program} (w : World) (t : TypeId) (s : ByteArray) (ht : P.underlying t = some .string) (kl kh : IntKind) (l h : Int) (h0 : 0 ≤ l) (h1 : l ≤ h) (h2 : h ≤ s.size) :
    (Instr.slice t (.string s) (some (.int kl l)) (some (.int kh h)) none).run P w = .ok (.string (s.extract l.toNat h.toNat)) w := by
  have eh : (h.toNat : Int) = h := Int.toNat_of_nonneg (by omega)
  simp [Instr.slice, run_underlying ht, Instr.sliceBounds, run_sliceBound, *, (by omega : 0 ≤ h)]

section
variable {P : Program} {o : Oper} {s : List AV} {H : List Ent} {K : AV → Prop} {t : TypeId} {x y z : Operand} {b : ByteArray} {k k' : IntKind} {i j : Int}
/-- b[i:j] -/
theorem ReadW.str_lh (ho : o.op = .slice t x (some y) (some z) none) (hu : P.underlying t = some .string) (hx : opv s x = .c (.v (.string b))) (hy : opv s y = .c (.v (.int k i))) (hz : opv s z = .c (.v (.int k' j)))
    (h : 0 ≤ i ∧ i ≤ j ∧ j ≤ b.size) (hk : K (.c (.v (.string (b.extract i.toNat j.toNat))))) : ReadW P o s H K :=
  ReadW.val _ (fun cs b e => by rw [ho] at e; cases e) (by rw [ho]; show allPlain s [x, y, z] = true; simp [allPlain, hx, hy, hz])
    (fun w _ => run_op_slice ho (by simp only [Option.map, plainEv_v hx, plainEv_v hy, plainEv_v hz]; rw [run_sliceAt_string w t _ _ _ _ hu, run_slice_string_lh w t b hu k k' i j h.1 h.2.1 h.2.2])) hk
/-- b[i:] -/
theorem ReadW.str_l (ho : o.op = .slice t x (some y) none none) (hu : P.underlying t = some .string) (hx : opv s x = .c (.v (.string b))) (hy : opv s y = .c (.v (.int k i)))
    (h : 0 ≤ i ∧ i ≤ b.size) (hk : K (.c (.v (.string (b.extract i.toNat b.size))))) : ReadW P o s H K :=
  ReadW.val _ (fun cs b e => by rw [ho] at e; cases e) (by rw [ho]; show allPlain s [x, y] = true; simp [allPlain, hx, hy])
    (fun w _ => run_op_slice ho (by simp only [Option.map, plainEv_v hx, plainEv_v hy]; rw [run_sliceAt_string w t _ _ _ _ hu, run_slice_string_l w t b hu k i h.1 h.2])) hk
/-- b[:j] -/
theorem ReadW.str_h (ho : o.op = .slice t x none (some z) none) (hu : P.underlying t = some .string) (hx : opv s x = .c (.v (.string b))) (hz : opv s z = .c (.v (.int k j)))
    (h : 0 ≤ j ∧ j ≤ b.size) (hk : K (.c (.v (.string (b.extract 0 j.toNat))))) : ReadW P o s H K :=
  ReadW.val _ (fun cs b e => by rw [ho] at e; cases e) (by rw [ho]; show allPlain s [x, z] = true; simp [allPlain, hx, hz])
    (fun w _ => run_op_slice ho (by simp only [Option.map, plainEv_v hx, plainEv_v hz]; rw [run_sliceAt_string w t _ _ _ _ hu, run_slice_string_h w t b hu k j h.1 h.2])) hk
end

/-- The bytes as values. -/
def u8s (l : List UInt8) : List Value := l.map fun b => .int .u8 (b.toNat : Int)
/-- string(a) of bytes. -/
theorem ReadW.bytes {P : Program} {o : Oper} {s : List AV} {H : List Ent} {K : AV → Prop} {src dst e : TypeId} {x : Operand} {a : Option Addr} {cap n : Nat} (l : List UInt8) (hn : l.length = n) (ho : o.op = .convert src dst x) (hs : P.underlying src = some (.slice e))
    (he : P.underlying e = some (.int .u8)) (hd : P.underlying dst = some .string) (hx : opv s x = .c (.v (.slice a n cap))) (hF : ∀ w, Facts H w → SlAt a n (u8s l) w) (hk : K (.c (.v (.string ⟨l.toArray⟩)))) : ReadW P o s H K := by
  subst hn
  exact ReadW.val _ (fun cs b e => by rw [ho] at e; cases e) (by rw [ho]; show allPlain s [x] = true; simp [allPlain, hx])
    (fun w hw => by
      unfold execOp
      have hS := hF w hw
      have hrun : (convert src dst (.slice a l.length cap)).run P w = .ok (.string ⟨l.toArray⟩) w := by
        cases a with
        | some a =>
          refine run_convert_bytes_back w src dst e a cap l hs he hd ?_
          intro j hj
          have := hS.2.2 j hj
          simpa [u8s, hj] using this
        | none =>
          have hl : l = [] := by
            cases l with
            | nil => rfl
            | cons c l => exact absurd (hS.2.1 (by simp)) (by simp)
          subst hl
          have := run_convert_bytes_string w src dst e none 0 cap hs he hd
          simp [this, Conv.bytesToString]
          rfl
      simp only [ho, plainEv_v hx, Sem.run_bind, hrun, Result.andThen_ok, Sem.run_pure]) hk

/-- A store into a slice that grows. -/
theorem EffW.app {P : Program} {o : Oper} {s : List AV} {H : List Ent} {K : AV → List Ent → Prop} {Ty T : TypeId} {x y : Operand} {sz n cap b q i : Nat} {xs ys : List Value} {inf : TypeInfo} (ho : o.op = .store Ty x y)
    (hx : opv s x = .c (.v (.pointer (some ⟨b, q, none⟩)))) (hi : nthE H i = some (.app T sz xs (some ⟨b, 0, none⟩) n cap)) (hy : avCells (opv s y) = some (vs ys)) (hone : oneCs (vs ys) = true) (hinf : P.info? Ty = some inf) (hlen : ys.length = inf.size)
    (hq : q + ys.length ≤ n * sz) (hk : setEK H i (.app T sz (xs.take q ++ ys ++ xs.drop (q + ys.length)) (some ⟨b, 0, none⟩) n cap) fun H' => K (.c .any) H') : EffW P o s H K := by
  rw [nthE_eq] at hi
  obtain ⟨_, hk⟩ := setEK_spec hk
  refine Effs.w (fun ρ S w a hs hr => ?_) hk
  have hxr : a.eval x = .pointer (some ⟨b, q, none⟩) := by have := opv_rel hr x; rw [hx] at this; exact this
  have hyr := avCells_rel hy (opv_rel hr y)
  have hys : (a.eval y).cells.toList = ys := by
    have : ∀ (l : List Value) (m : List Value), RelL ρ (vs l) m → m = l := by
      intro l
      induction l with
      | nil => intro m h; cases m with
        | nil => rfl
        | cons _ _ => exact h.elim
      | cons v l ih => intro m h; cases m with
        | nil => exact h.elim
        | cons u m => rw [show u = v from h.1, ih m h.2]
    exact this _ _ hyr
  rcases hs.ent i _ hi with ⟨h0, _⟩ | ⟨b', hb', arr, hb, hxl, hnc, hcm, hasz, htk⟩
  · cases h0
  cases hb'
  have hnl : n * sz ≤ arr.size := by rw [hasz]; exact Nat.mul_le_mul_right _ hnc
  have hsz : (a.eval y).cells.size = inf.size := by rw [← hlen, ← hys]; simp
  have hfit : q + (a.eval y).cells.toList.length ≤ arr.size := by rw [hys]; omega
  have hrun := run_storeVar (P := P) hb hinf hsz hfit (oneCs_rel hone hyr)
  obtain ⟨f1, f2, f3, f4, f5⟩ := setRow_facts w b (arr.toList.take q ++ (a.eval y).cells.toList ++ arr.toList.drop (q + (a.eval y).cells.toList.length)).toArray
  have hE : EntOk ρ S (w.setRow b (arr.toList.take q ++ (a.eval y).cells.toList ++ arr.toList.drop (q + (a.eval y).cells.toList.length)).toArray) i (.app T sz (xs.take q ++ ys ++ xs.drop (q + ys.length)) (some ⟨b, 0, none⟩) n cap) := by
    refine .inr ⟨b, rfl, _, setRow_heap w b arr _ T _ hb, ?_, hnc, hcm, ?_, ?_⟩
    · simp; omega
    · rw [hys]; simp; omega
    · rw [hys]
      have e : (arr.toList.take q ++ ys ++ arr.toList.drop (q + ys.length)).toArray.toList.take (n * sz) = (arr.toList.take (n * sz)).take q ++ ys ++ (arr.toList.take (n * sz)).drop (q + ys.length) := by
        apply List.ext_getElem?
        intro j
        simp only [List.getElem?_take, List.getElem?_append, List.getElem?_drop, List.length_append, List.length_take, Array.length_toList]
        by_cases h1 : j < q
        · have : min q arr.size = q := by omega
          have h2 : min q (min (n * sz) arr.size) = q := by omega
          simp [this, h2, h1, show j < q + ys.length by omega, show j < n * sz by omega]
        · have : min q arr.size = q := by omega
          have h2 : min q (min (n * sz) arr.size) = q := by omega
          by_cases h3 : j < q + ys.length
          · simp [this, h2, h1, h3, show j < n * sz by omega]
          · simp only [this, h2, h1, h3, if_false]
            by_cases h4 : j < n * sz
            · simp [h4, show q + ys.length + (j - (q + ys.length)) = j by omega]
            · simp [h4]; omega
      rw [e, htk]
  have hS := hs.setG (e' := .app T sz (xs.take q ++ ys ++ xs.drop (q + ys.length)) (some ⟨b, 0, none⟩) n cap) hi rfl (Nat.le_of_eq f1.symm) (fun k _ hne => f2 k hne) f3 f4 f5 (fun c hc => .inl (Option.some.inj hc).symm) hE
  refine ⟨.skip, undef, ρ, _, ?_, .inr ⟨rfl, rfl⟩, hS.1, hS.2, trivial⟩
  unfold execOp
  simp only [ho, hxr, Instr.storeAt, Instr.sureAddr, Sem.run_bind, Sem.run_pure, Result.andThen_ok, hrun]
end Go.AX
