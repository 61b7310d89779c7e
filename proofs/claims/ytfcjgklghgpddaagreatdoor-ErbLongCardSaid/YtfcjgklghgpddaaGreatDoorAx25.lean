/-
  AX, twenty-fifth text: rows of bytes that are made.
-/
import Derived.Test.YtfcjgklghgpddaaGreatDoorAx23
import Derived.Laws.MakeOwn
namespace Go.AX

theorem made_bytes (n : Nat) : (madeCells #[Value.int .u8 0] n).toList = List.replicate n (.int .u8 0) := by
  apply List.ext_getElem?
  intro i
  rw [madeCells, Array.toList_map, List.getElem?_map, Array.toList_range]
  by_cases h : i < n
  · rw [List.getElem?_range h, List.getElem?_replicate, if_pos h]
    simp [Nat.mod_one]
  · rw [List.getElem?_eq_none (by simpa using h), List.getElem?_eq_none (by simpa using h)]
    rfl
/-- make([]byte, n) -/
theorem EffW.mkBytes {P : Program} {o : Oper} {s : List AV} {H : List Ent} {K : AV → List Ent → Prop} {t e : TypeId} {x y : Operand} (n : Nat) (ho : o.op = .makeSlice t x y) (ht : P.underlying t = some (.slice e)) (he : byteB P e = true)
    (hx : opv s x = .c (.v (.int .i64 (n : Int)))) (hy : opv s y = .c (.v (.int .i64 (n : Int)))) (hn : n ≤ 16000000)
    (next : ∀ b, K (.c (.v (.slice (some ⟨b, 0, none⟩) n n))) (H ++ [.app e 1 (List.replicate n (.int .u8 0)) (some ⟨b, 0, none⟩) n n])) : EffW P o s H K := by
  obtain ⟨inf, hi, hz, h1, h2⟩ := byteB_spec he
  intro ρ S w a hs hr
  have hxr := opv_rel hr x
  have hyr := opv_rel hr y
  rw [hx] at hxr; rw [hy] at hyr
  have hxe : a.eval x = .int .i64 (n : Int) := hxr
  have hye : a.eval y = .int .i64 (n : Int) := hyr
  have hrun := run_makeSlice (P := P) (w := w) t e inf (.int .u8 0) ht hi hz .i64 .i64 (n : Int) (n : Int) (by omega) (Int.le_refl _) (by rw [h1]; omega) (by rw [h2]; omega) (by omega)
  simp only [Int.toNat_natCast, h1, Nat.mul_one] at hrun
  have hrow : RowF e 1 n (List.replicate n (.int .u8 0)) w.heap.size n (w.alloc (.cells (madeCells #[Value.int .u8 0] n) e)) :=
    ⟨_, heap_alloc_new w _, by simp, Nat.le_refl _, by simp only [maxLen]; omega, by rw [size_madeCells, Nat.mul_one], by rw [made_bytes, Nat.mul_one, List.take_of_length_le (by simp)]⟩
  have hS := hs.newApp (w' := w.alloc (.cells (madeCells #[Value.int .u8 0] n) e)) rfl rfl rfl rfl hrow
  refine ⟨_, _, next w.heap.size, _, _, _, _, ?_, .inl rfl, hS.1, hS.2, rfl⟩
  unfold execOp
  simp only [ho, hxe, hye, Sem.run_bind, Sem.run_pure, hrun, Result.andThen_ok]
  rfl
end Go.AX
