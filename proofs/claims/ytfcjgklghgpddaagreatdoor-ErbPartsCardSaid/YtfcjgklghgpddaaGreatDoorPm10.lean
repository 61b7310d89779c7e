/-
  ErbPartsCardSaid is proved: of every two strings and a flag ErbParts returns true and leaves its arguments as they were; the listed tables are tied to the program's text.
-/
import Derived.Test.YtfcjgklghgpddaaGreatDoorCards
import Derived.Test.YtfcjgklghgpddaaGreatDoorTie
import Derived.Lay
import Derived.Test.YtfcjgklghgpddaaGreatDoorPm9
/-
  Contract: Program.
-/
namespace Go.Proofs.YtfcjgklghgpddaaGreatDoor
open Go.AX Go.RowKit Go.Erb
set_option maxRecDepth 20000
set_option linter.unusedSimpArgs false

/-- What is in memory while the loop runs: the Replacer not built yet, or built. -/
def prH (G : World → Prop) (b c k b0 cap : Nat) (q : Option Tbl) (x : List UInt8) (i : BSt) : List Ent :=
  [.fact MaxF, .fact G, .fz 9 1 10 (olnw qt qtL.reverse) b0 cap,
    match q with | none => .app 9 1 (olnw qt qtL.reverse) (some ⟨c, 0, none⟩) 10 k | some _ => .dead,
    match q with | none => .app 82 5 (replC 0 0 .nilIface (some ⟨c, 0, none⟩) 10 k) (some ⟨b, 0, none⟩) 1 1 | some d => .fact (DoneF b qt qtL d),
    .blk 52 [.lp 5 0, .v (.slice (at0 i.ob) x.length i.cap)], .app 5 1 (u8s x) (at0 i.ob) x.length i.cap]
set_option maxHeartbeats 2000000 in
theorem Program_c (s out : List UInt8) (lines : Bool) (hs : s.length ≤ 200000000000000) (ho : out.length ≤ 1000000000) : ∀ H, (∀ w, Facts H w → MaxF w) → SpecH Tryz.prog 9 (pvs [.string (bs s), .string (bs out), .bool lines]) H (Ret (.tuple #[.string (bs (progR s out lines).1), .int .i64 (progR s out lines).2.1, .int .i64 (progR s out lines).2.2]) H) := by
  have hz : (bs out).size = out.length := bs_size out
  have z3 : ByteArray.size ⟨#[32, 61, 32]⟩ = 3 := rfl
  have z4 : ByteArray.size ⟨#[32, 43, 32, 34]⟩ = 4 := rfl
  have z4' : ByteArray.size ⟨#[32, 43, 32, 40]⟩ = 4 := rfl
  have z2 : ByteArray.size ⟨#[34, 10]⟩ = 2 := rfl
  have z1 : ByteArray.size ⟨#[10]⟩ = 1 := rfl
  have z7 : ByteArray.size ⟨#[41, 46, 116, 111, 95, 115, 10]⟩ = 7 := rfl
  have z6 : ByteArray.size ⟨#[32, 61, 32, 34, 34, 10]⟩ = 6 := rfl
  refine factC hm Tryz.func9 (by kernel_rfl) rfl rfl ?_
  have hmp := parts_mass s lines
  have hlp := parts_len s lines
  ((conv => whnf); (repeat ((first | refine BoxN.own ?_ | refine VrN.norm (wrap_i64 (by omega)) ?_ | refine VrN.keep ?_ | refine DrawN.calm (by decide +kernel) ?_ | refine Nd.mk (by decide +kernel) ?_ | refine Nd.mk (by omega) ?_ | (refine Nd.mk ?_ ?_; focus ((repeat' (first | exact trivial | exact wkE_refl _ | refine And.intro ?_ ?_)); done)) | refine RdN.intro _ rfl (by rfl) ?_); (conv => whnf))))
  refine call1 (isName_c out ho _) ?_
  cases hN : nameB out with
  | false =>
    have hR : progR s out lines = ([], 0, 1) := by unfold progR; rw [hN]; rfl
    rw [hR]
    ((conv => whnf); (repeat ((first | refine BoxN.own ?_ | refine VrN.norm (wrap_i64 (by omega)) ?_ | refine VrN.keep ?_ | refine DrawN.calm (by decide +kernel) ?_ | refine Nd.mk (by decide +kernel) ?_ | refine Nd.mk (by omega) ?_ | (refine Nd.mk ?_ ?_; focus ((repeat' (first | exact trivial | exact wkE_refl _ | refine And.intro ?_ ?_)); done)) | refine RdN.intro _ rfl (by rfl) ?_); (conv => whnf))))
    rfl
  | true =>
    have hN2 := hN
    simp only [nameB, Bool.and_eq_true, decide_eq_true_eq] at hN2
    obtain ⟨⟨n1, n2⟩, n3⟩ := hN2
    unfold progR
    rw [hN]
    simp only [if_true]
    ((conv => whnf); (repeat ((first | refine BoxN.own ?_ | refine VrN.norm (wrap_i64 (by omega)) ?_ | refine VrN.keep ?_ | refine DrawN.calm (by decide +kernel) ?_ | refine Nd.mk (by decide +kernel) ?_ | refine Nd.mk (by omega) ?_ | (refine Nd.mk ?_ ?_; focus ((repeat' (first | exact trivial | exact wkE_refl _ | refine And.intro ?_ ?_)); done)) | refine RdN.intro _ rfl (by rfl) ?_); (conv => whnf))))
    refine SpecF.call (Parts_c s lines hs) (fun w hw => hw.1) fun v G hR => ?_
    obtain ⟨ob, cap, rfl, hn, hG⟩ := hR
    ((conv => whnf); (repeat ((first | refine BoxN.own ?_ | refine VrN.norm (wrap_i64 (by omega)) ?_ | refine VrN.keep ?_ | refine DrawN.calm (by decide +kernel) ?_ | refine Nd.mk (by decide +kernel) ?_ | refine Nd.mk (by omega) ?_ | (refine Nd.mk ?_ ?_; focus ((repeat' (first | exact trivial | exact wkE_refl _ | refine And.intro ?_ ?_)); done)) | refine RdN.intro _ rfl (by rfl) ?_); (conv => whnf))))
    refine brd_ne (fun h => ?_) (fun h => ?_)
    · rw [if_neg h]
      ((conv => whnf); (repeat ((first | refine BoxN.own ?_ | refine VrN.norm (wrap_i64 (by omega)) ?_ | refine VrN.keep ?_ | refine DrawN.calm (by decide +kernel) ?_ | refine Nd.mk (by decide +kernel) ?_ | refine Nd.mk (by omega) ?_ | (refine Nd.mk ?_ ?_; focus ((repeat' (first | exact trivial | exact wkE_refl _ | refine And.intro ?_ ?_)); done)) | refine RdN.intro _ rfl (by rfl) ?_); (conv => whnf))))
      rfl
    rw [if_pos h]
    have hs5 := parts_short h
    generalize (parts s lines).1 = l at *
    ((conv => whnf); (repeat ((first | refine BoxN.own ?_ | refine VrN.norm (wrap_i64 (by omega)) ?_ | refine VrN.keep ?_ | refine DrawN.calm (by decide +kernel) ?_ | refine Nd.mk (by decide +kernel) ?_ | refine Nd.mk (by omega) ?_ | (refine Nd.mk ?_ ?_; focus ((repeat' (first | exact trivial | exact wkE_refl _ | refine And.intro ?_ ?_)); done)) | refine RdN.intro _ rfl (by rfl) ?_); (conv => whnf))))
    refine SpecH.freeze (callOk Tryz.func19 (by kernel_rfl) rfl) 2 rfl rfl fun b0 cap0 _ => ?_
    refine SpecH.plain rfl ?_
    refine callG (NewReplacer_c b0 (olnw qt qtL.reverse) cap0 (by decide) (by decide) (by decide) (by decide)) [2] rfl ⟨rfl, trivial⟩ rfl fun ⟨b, c, k⟩ _ => ?_
    ((conv => whnf); (repeat ((first | refine BoxN.own ?_ | refine VrN.norm (wrap_i64 (by omega)) ?_ | refine VrN.keep ?_ | refine DrawN.calm (by decide +kernel) ?_ | refine Nd.mk (by decide +kernel) ?_ | refine Nd.mk (by omega) ?_ | (refine Nd.mk ?_ ?_; focus ((repeat' (first | exact trivial | exact wkE_refl _ | refine And.intro ?_ ?_)); done)) | refine RdN.intro _ rfl (by rfl) ?_); (conv => whnf))))
    -- one text behind another
    try (refine Nd.mk (by simp only [ByteArray.size_append, bs_size, z3, z4, z4', z2, z1, z7, z6]; omega) ?_; ((conv => whnf); (repeat ((first | refine BoxN.own ?_ | refine VrN.norm (wrap_i64 (by omega)) ?_ | refine VrN.keep ?_ | refine DrawN.calm (by decide +kernel) ?_ | refine Nd.mk (by decide +kernel) ?_ | refine Nd.mk (by omega) ?_ | (refine Nd.mk ?_ ?_; focus ((repeat' (first | exact trivial | exact wkE_refl _ | refine And.intro ?_ ?_)); done)) | refine RdN.intro _ rfl (by rfl) ?_); (conv => whnf)))))
    refine SpecH.pad [.app 5 1 [] none 0 0] rfl ?_
    refine callG (WriteString_c false [] (out ++ [32, 61, 32, 34, 34, 10]) ⟨none, 0⟩ ⟨fun _ => ⟨rfl, rfl⟩, Nat.le_refl _, fun _ => rfl⟩ (by simp; omega)) [5, 6] rfl ⟨rfl, rfl, trivial⟩ (by simp [opvs, opv, nth, pvs, rnS, rnA, rnC, rnI, ← bs_app]; rfl) fun i0 hi0 => ?_
    ((conv => whnf); (repeat ((first | refine BoxN.own ?_ | refine VrN.norm (wrap_i64 (by omega)) ?_ | refine VrN.keep ?_ | refine DrawN.calm (by decide +kernel) ?_ | refine Nd.mk (by decide +kernel) ?_ | refine Nd.mk (by omega) ?_ | (refine Nd.mk ?_ ?_; focus ((repeat' (first | exact trivial | exact wkE_refl _ | refine And.intro ?_ ?_)); done)) | refine RdN.intro _ rfl (by rfl) ?_); (conv => whnf))))
    refine LoopN.intro (Nat × Option Tbl × BSt) (fun ⟨i, q, bst⟩ => i ≤ l.length ∧ (∀ d, q = some d → TblOk qt qtL d) ∧ bst.ok (out ++ [32, 61, 32, 34, 34, 10] ++ (l.take i).flatMap (progP out)).length)
      (fun ⟨i, _, _⟩ => mkS Tryz.f9.ntmps 0 [(1, .c (.v (.string (bs out)))), (12, .c (.v (.pointer (some ⟨b, 0, none⟩)))), (13, .c (.lp 5 0)), (35, .c (.v (.slice (at0 ob) l.length cap))), (36, .c (.v (.int .i64 (l.length : Int)))), (37, .c (.v (.int .i64 (i : Int))))])
      (fun ⟨i, q, bst⟩ => prH G b c k b0 cap0 q (out ++ [32, 61, 32, 34, 34, 10] ++ (l.take i).flatMap (progP out)) bst) (fun ⟨i, _⟩ => l.length - i) [] rfl
      (fun _ => rfl) (fun _ => rfl) (fun ⟨_, q, _⟩ _ => by cases q <;> exact okHB_eq rfl) ⟨(0, none, i0), ⟨Nat.zero_le _, (fun _ h => by cases h), by simpa using hi0⟩, ?_, wkH_of_eq (by simp [prH, bC, rnE, rnC, rnCs, rnI]; exact ⟨rfl, rfl⟩)⟩ ?_
    · (repeat' (first | exact trivial | refine And.intro (by with_reducible rfl) ?_ | (with_reducible exact wkC_refl _) | (with_reducible exact wkCs_refl _) | refine And.intro ?_ ?_))
      all_goals rfl
    rintro ⟨i, q, bst⟩ ⟨hi, hq, hb⟩
    have hpl := prog_len out n2 (l.take i)
    have hmt := mass_take l i
    cases q with
    | none =>
      ((conv => whnf); (repeat ((first | refine BoxN.own ?_ | refine VrN.norm (wrap_i64 (by omega)) ?_ | refine VrN.keep ?_ | refine DrawN.calm (by decide +kernel) ?_ | refine Nd.mk (by decide +kernel) ?_ | refine Nd.mk (by omega) ?_ | (refine Nd.mk ?_ ?_; focus ((repeat' (first | exact trivial | exact wkE_refl _ | refine And.intro ?_ ?_)); done)) | refine RdN.intro _ rfl (by rfl) ?_); (conv => whnf))))
      refine brd_dec (fun h1 => ?_) (fun h1 => ?_)
      · obtain ⟨⟨kk, line, t⟩, hp⟩ : ∃ p, l[i]? = some p := ⟨_, List.getElem?_eq_getElem (by omega)⟩
        have htm := mass_mem (List.mem_of_getElem? hp)
        have htm : 1 + t.length ≤ mass l := htm
        have hql := qt_len t
        have hnext : out ++ [32, 61, 32, 34, 34, 10] ++ (l.take (i + 1)).flatMap (progP out) = (out ++ [32, 61, 32, 34, 34, 10] ++ (l.take i).flatMap (progP out)) ++ progP out ⟨kk, line, t⟩ := by rw [prog_snoc out hp]; simp
        have hA : (out ++ [32, 61, 32, 34, 34, 10] ++ (l.take i).flatMap (progP out)).length ≤ 20000000 := by
          simp only [List.length_append, List.length_cons, List.length_nil]
          omega
        generalize out ++ [32, 61, 32, 34, 34, 10] ++ (l.take i).flatMap (progP out) = A at *
        have hsa : (at0 ob).isSome = true := by
          cases ob with
          | none => rw [hn rfl] at hp; cases hp
          | some _ => rfl
        ((conv => whnf); (repeat ((first | refine BoxN.own ?_ | refine VrN.norm (wrap_i64 (by omega)) ?_ | refine VrN.keep ?_ | refine DrawN.calm (by decide +kernel) ?_ | refine Nd.mk (by decide +kernel) ?_ | refine Nd.mk (by omega) ?_ | (refine Nd.mk ?_ ?_; focus ((repeat' (first | exact trivial | exact wkE_refl _ | refine And.intro ?_ ?_)); done)) | refine RdN.intro _ rfl (by rfl) ?_); (conv => whnf))))
        refine Nd.mk ⟨hsa, by omega, by omega⟩ ?_
        ((conv => whnf); (repeat ((first | refine BoxN.own ?_ | refine VrN.norm (wrap_i64 (by omega)) ?_ | refine VrN.keep ?_ | refine DrawN.calm (by decide +kernel) ?_ | refine Nd.mk (by decide +kernel) ?_ | refine Nd.mk (by omega) ?_ | (refine Nd.mk ?_ ?_; focus ((repeat' (first | exact trivial | exact wkE_refl _ | refine And.intro ?_ ?_)); done)) | refine RdN.intro _ rfl (by rfl) ?_); (conv => whnf))))
        refine LdN.agg (n := 3) (partC ⟨kk, line, t⟩) rfl (fun w hw => hG w hw.2.1) rfl (fun j hj => by rw [Int.toNat_natCast]; exact partsC_get l i j hj hp) ?_
        ((conv => whnf); (repeat ((first | refine BoxN.own ?_ | refine VrN.norm (wrap_i64 (by omega)) ?_ | refine VrN.keep ?_ | refine DrawN.calm (by decide +kernel) ?_ | refine Nd.mk (by decide +kernel) ?_ | refine Nd.mk (by omega) ?_ | (refine Nd.mk ?_ ?_; focus ((repeat' (first | exact trivial | exact wkE_refl _ | refine And.intro ?_ ?_)); done)) | refine RdN.intro _ rfl (by rfl) ?_); (conv => whnf))))
        rcases kindsK kk with hk | hk | hk | hk | hk | hk
        · have hP : progP out ⟨kk, line, t⟩ = [] := by
            unfold progP
            simp [show ¬ kk = 0 by omega, show ¬ kk = 1 by omega, show ¬ kk = 2 by omega]
          refine brd_eq (fun h => absurd (show kk = 0 from h) (by omega)) (fun _ => ?_)
          ((conv => whnf); (repeat ((first | refine BoxN.own ?_ | refine VrN.norm (wrap_i64 (by omega)) ?_ | refine VrN.keep ?_ | refine DrawN.calm (by decide +kernel) ?_ | refine Nd.mk (by decide +kernel) ?_ | refine Nd.mk (by omega) ?_ | (refine Nd.mk ?_ ?_; focus ((repeat' (first | exact trivial | exact wkE_refl _ | refine And.intro ?_ ?_)); done)) | refine RdN.intro _ rfl (by rfl) ?_); (conv => whnf))))
          refine brd_eq (fun h => absurd (show kk = 1 from h) (by omega)) (fun _ => ?_)
          ((conv => whnf); (repeat ((first | refine BoxN.own ?_ | refine VrN.norm (wrap_i64 (by omega)) ?_ | refine VrN.keep ?_ | refine DrawN.calm (by decide +kernel) ?_ | refine Nd.mk (by decide +kernel) ?_ | refine Nd.mk (by omega) ?_ | (refine Nd.mk ?_ ?_; focus ((repeat' (first | exact trivial | exact wkE_refl _ | refine And.intro ?_ ?_)); done)) | refine RdN.intro _ rfl (by rfl) ?_); (conv => whnf))))
          refine brd_eq (fun h => absurd (show kk = 2 from h) (by omega)) (fun _ => ?_)
          ((conv => whnf); (repeat ((first | refine BoxN.own ?_ | refine VrN.norm (wrap_i64 (by omega)) ?_ | refine VrN.keep ?_ | refine DrawN.calm (by decide +kernel) ?_ | refine Nd.mk (by decide +kernel) ?_ | refine Nd.mk (by omega) ?_ | (refine Nd.mk ?_ ?_; focus ((repeat' (first | exact trivial | exact wkE_refl _ | refine And.intro ?_ ?_)); done)) | refine RdN.intro _ rfl (by rfl) ?_); (conv => whnf))))
          refine ⟨(i + 1, none, bst), ⟨by omega, hq, by rw [hnext, hP, List.append_nil]; exact hb⟩, by show l.length - (i + 1) < l.length - i; omega, ?_, ?_⟩
          · (repeat' (first | exact trivial | refine And.intro (by with_reducible rfl) ?_ | (with_reducible exact wkC_refl _) | (with_reducible exact wkCs_refl _) | refine And.intro ?_ ?_))
            all_goals exact av_int (by first | omega | (rw [wrap_i64 (by omega)]; omega))
          · show wkH _ (prH G b c k b0 cap0 none (out ++ [32, 61, 32, 34, 34, 10] ++ (l.take (i + 1)).flatMap (progP out)) bst)
            rw [hnext, hP, List.append_nil]
            exact ⟨wkE_refl _, wkE_refl _, wkE_refl _, wkE_refl _, wkE_refl _, wkE_refl _, wkE_refl _, wkH_nil _⟩
        · have hP : progP out ⟨kk, line, t⟩ = [] := by
            unfold progP
            simp [show ¬ kk = 0 by omega, show ¬ kk = 1 by omega, show ¬ kk = 2 by omega]
          refine brd_eq (fun h => absurd (show kk = 0 from h) (by omega)) (fun _ => ?_)
          ((conv => whnf); (repeat ((first | refine BoxN.own ?_ | refine VrN.norm (wrap_i64 (by omega)) ?_ | refine VrN.keep ?_ | refine DrawN.calm (by decide +kernel) ?_ | refine Nd.mk (by decide +kernel) ?_ | refine Nd.mk (by omega) ?_ | (refine Nd.mk ?_ ?_; focus ((repeat' (first | exact trivial | exact wkE_refl _ | refine And.intro ?_ ?_)); done)) | refine RdN.intro _ rfl (by rfl) ?_); (conv => whnf))))
          refine brd_eq (fun h => absurd (show kk = 1 from h) (by omega)) (fun _ => ?_)
          ((conv => whnf); (repeat ((first | refine BoxN.own ?_ | refine VrN.norm (wrap_i64 (by omega)) ?_ | refine VrN.keep ?_ | refine DrawN.calm (by decide +kernel) ?_ | refine Nd.mk (by decide +kernel) ?_ | refine Nd.mk (by omega) ?_ | (refine Nd.mk ?_ ?_; focus ((repeat' (first | exact trivial | exact wkE_refl _ | refine And.intro ?_ ?_)); done)) | refine RdN.intro _ rfl (by rfl) ?_); (conv => whnf))))
          refine brd_eq (fun h => absurd (show kk = 2 from h) (by omega)) (fun _ => ?_)
          ((conv => whnf); (repeat ((first | refine BoxN.own ?_ | refine VrN.norm (wrap_i64 (by omega)) ?_ | refine VrN.keep ?_ | refine DrawN.calm (by decide +kernel) ?_ | refine Nd.mk (by decide +kernel) ?_ | refine Nd.mk (by omega) ?_ | (refine Nd.mk ?_ ?_; focus ((repeat' (first | exact trivial | exact wkE_refl _ | refine And.intro ?_ ?_)); done)) | refine RdN.intro _ rfl (by rfl) ?_); (conv => whnf))))
          refine ⟨(i + 1, none, bst), ⟨by omega, hq, by rw [hnext, hP, List.append_nil]; exact hb⟩, by show l.length - (i + 1) < l.length - i; omega, ?_, ?_⟩
          · (repeat' (first | exact trivial | refine And.intro (by with_reducible rfl) ?_ | (with_reducible exact wkC_refl _) | (with_reducible exact wkCs_refl _) | refine And.intro ?_ ?_))
            all_goals exact av_int (by first | omega | (rw [wrap_i64 (by omega)]; omega))
          · show wkH _ (prH G b c k b0 cap0 none (out ++ [32, 61, 32, 34, 34, 10] ++ (l.take (i + 1)).flatMap (progP out)) bst)
            rw [hnext, hP, List.append_nil]
            exact ⟨wkE_refl _, wkE_refl _, wkE_refl _, wkE_refl _, wkE_refl _, wkE_refl _, wkE_refl _, wkH_nil _⟩
        · subst hk
          ((conv => whnf); (repeat ((first | refine BoxN.own ?_ | refine VrN.norm (wrap_i64 (by omega)) ?_ | refine VrN.keep ?_ | refine DrawN.calm (by decide +kernel) ?_ | refine Nd.mk (by decide +kernel) ?_ | refine Nd.mk (by omega) ?_ | (refine Nd.mk ?_ ?_; focus ((repeat' (first | exact trivial | exact wkE_refl _ | refine And.intro ?_ ?_)); done)) | refine RdN.intro _ rfl (by rfl) ?_); (conv => whnf))))
          -- one text behind another
          try (refine Nd.mk (by simp only [ByteArray.size_append, bs_size, z3, z4, z4', z2, z1, z7, z6]; omega) ?_; ((conv => whnf); (repeat ((first | refine BoxN.own ?_ | refine VrN.norm (wrap_i64 (by omega)) ?_ | refine VrN.keep ?_ | refine DrawN.calm (by decide +kernel) ?_ | refine Nd.mk (by decide +kernel) ?_ | refine Nd.mk (by omega) ?_ | (refine Nd.mk ?_ ?_; focus ((repeat' (first | exact trivial | exact wkE_refl _ | refine And.intro ?_ ?_)); done)) | refine RdN.intro _ rfl (by rfl) ?_); (conv => whnf)))))
          -- one text behind another
          try (refine Nd.mk (by simp only [ByteArray.size_append, bs_size, z3, z4, z4', z2, z1, z7, z6]; omega) ?_; ((conv => whnf); (repeat ((first | refine BoxN.own ?_ | refine VrN.norm (wrap_i64 (by omega)) ?_ | refine VrN.keep ?_ | refine DrawN.calm (by decide +kernel) ?_ | refine Nd.mk (by decide +kernel) ?_ | refine Nd.mk (by omega) ?_ | (refine Nd.mk ?_ ?_; focus ((repeat' (first | exact trivial | exact wkE_refl _ | refine And.intro ?_ ?_)); done)) | refine RdN.intro _ rfl (by rfl) ?_); (conv => whnf)))))
          -- one text behind another
          try (refine Nd.mk (by simp only [ByteArray.size_append, bs_size, z3, z4, z4', z2, z1, z7, z6]; omega) ?_; ((conv => whnf); (repeat ((first | refine BoxN.own ?_ | refine VrN.norm (wrap_i64 (by omega)) ?_ | refine VrN.keep ?_ | refine DrawN.calm (by decide +kernel) ?_ | refine Nd.mk (by decide +kernel) ?_ | refine Nd.mk (by omega) ?_ | (refine Nd.mk ?_ ?_; focus ((repeat' (first | exact trivial | exact wkE_refl _ | refine And.intro ?_ ?_)); done)) | refine RdN.intro _ rfl (by rfl) ?_); (conv => whnf)))))
          refine callG (first_qt t b c k (by omega)) [3, 4] rfl ⟨rfl, rfl, trivial⟩ rfl fun d hd => ?_
          ((conv => whnf); (repeat ((first | refine BoxN.own ?_ | refine VrN.norm (wrap_i64 (by omega)) ?_ | refine VrN.keep ?_ | refine DrawN.calm (by decide +kernel) ?_ | refine Nd.mk (by decide +kernel) ?_ | refine Nd.mk (by omega) ?_ | (refine Nd.mk ?_ ?_; focus ((repeat' (first | exact trivial | exact wkE_refl _ | refine And.intro ?_ ?_)); done)) | refine RdN.intro _ rfl (by rfl) ?_); (conv => whnf))))
          -- one text behind another
          try (refine Nd.mk (by simp only [ByteArray.size_append, bs_size, z3, z4, z4', z2, z1, z7, z6]; omega) ?_; ((conv => whnf); (repeat ((first | refine BoxN.own ?_ | refine VrN.norm (wrap_i64 (by omega)) ?_ | refine VrN.keep ?_ | refine DrawN.calm (by decide +kernel) ?_ | refine Nd.mk (by decide +kernel) ?_ | refine Nd.mk (by omega) ?_ | (refine Nd.mk ?_ ?_; focus ((repeat' (first | exact trivial | exact wkE_refl _ | refine And.intro ?_ ?_)); done)) | refine RdN.intro _ rfl (by rfl) ?_); (conv => whnf)))))
          -- one text behind another
          try (refine Nd.mk (by simp only [ByteArray.size_append, bs_size, z3, z4, z4', z2, z1, z7, z6]; omega) ?_; ((conv => whnf); (repeat ((first | refine BoxN.own ?_ | refine VrN.norm (wrap_i64 (by omega)) ?_ | refine VrN.keep ?_ | refine DrawN.calm (by decide +kernel) ?_ | refine Nd.mk (by decide +kernel) ?_ | refine Nd.mk (by omega) ?_ | (refine Nd.mk ?_ ?_; focus ((repeat' (first | exact trivial | exact wkE_refl _ | refine And.intro ?_ ?_)); done)) | refine RdN.intro _ rfl (by rfl) ?_); (conv => whnf)))))
          -- the bytes of a part are written, the round is over
          have hE : bs out ++ bs [32, 61, 32] ++ bs out ++ bs [32, 43, 32, 34] ++ bs (t.flatMap qt) ++ bs [34, 10] = bs (progP out ⟨0, line, t⟩) := by
            simp only [bs_app]
            simp [progP]
          have hPl : (progP out ⟨0, line, t⟩).length ≤ 100 * (1 + t.length) := progP_len out n2 ⟨0, line, t⟩
          refine callG (WriteString_c true A (progP out ⟨0, line, t⟩) bst hb (by omega)) [5, 6] rfl ⟨rfl, rfl, trivial⟩ (by simp [opvs, opv, nth, pvs, rnS, rnA, rnC, rnI]; exact hE) fun i1 hi1 => ?_
          ((conv => whnf); (repeat ((first | refine BoxN.own ?_ | refine VrN.norm (wrap_i64 (by omega)) ?_ | refine VrN.keep ?_ | refine DrawN.calm (by decide +kernel) ?_ | refine Nd.mk (by decide +kernel) ?_ | refine Nd.mk (by omega) ?_ | (refine Nd.mk ?_ ?_; focus ((repeat' (first | exact trivial | exact wkE_refl _ | refine And.intro ?_ ?_)); done)) | refine RdN.intro _ rfl (by rfl) ?_); (conv => whnf))))
          refine ⟨(i + 1, (some d), i1), ⟨by omega, (fun d' h => by cases h; exact hd), by rw [hnext]; exact hi1⟩, by show l.length - (i + 1) < l.length - i; omega, ?_, ?_⟩
          · (repeat' (first | exact trivial | refine And.intro (by with_reducible rfl) ?_ | (with_reducible exact wkC_refl _) | (with_reducible exact wkCs_refl _) | refine And.intro ?_ ?_))
            all_goals exact av_int (by first | omega | (rw [wrap_i64 (by omega)]; omega))
          · show wkH _ (prH G b c k b0 cap0 (some d) (out ++ [32, 61, 32, 34, 34, 10] ++ (l.take (i + 1)).flatMap (progP out)) i1)
            rw [hnext]
            exact wkH_cons rfl (wkH_cons rfl (wkH_cons rfl (wkH_cons rfl (wkH_cons rfl (wkH_cons (by simp [bC, rnE, rnC, rnCs, rnI]) (wkH_cons (by simp [rnE]) (wkH_nil _)))))))
        · subst hk
          ((conv => whnf); (repeat ((first | refine BoxN.own ?_ | refine VrN.norm (wrap_i64 (by omega)) ?_ | refine VrN.keep ?_ | refine DrawN.calm (by decide +kernel) ?_ | refine Nd.mk (by decide +kernel) ?_ | refine Nd.mk (by omega) ?_ | (refine Nd.mk ?_ ?_; focus ((repeat' (first | exact trivial | exact wkE_refl _ | refine And.intro ?_ ?_)); done)) | refine RdN.intro _ rfl (by rfl) ?_); (conv => whnf))))
          -- one text behind another
          try (refine Nd.mk (by simp only [ByteArray.size_append, bs_size, z3, z4, z4', z2, z1, z7, z6]; omega) ?_; ((conv => whnf); (repeat ((first | refine BoxN.own ?_ | refine VrN.norm (wrap_i64 (by omega)) ?_ | refine VrN.keep ?_ | refine DrawN.calm (by decide +kernel) ?_ | refine Nd.mk (by decide +kernel) ?_ | refine Nd.mk (by omega) ?_ | (refine Nd.mk ?_ ?_; focus ((repeat' (first | exact trivial | exact wkE_refl _ | refine And.intro ?_ ?_)); done)) | refine RdN.intro _ rfl (by rfl) ?_); (conv => whnf)))))
          -- the bytes of a part are written, the round is over
          have hE : bs t ++ bs [10] = bs (progP out ⟨1, line, t⟩) := by
            simp only [bs_app]
            simp [progP]
          have hPl : (progP out ⟨1, line, t⟩).length ≤ 100 * (1 + t.length) := progP_len out n2 ⟨1, line, t⟩
          refine callG (WriteString_c true A (progP out ⟨1, line, t⟩) bst hb (by omega)) [5, 6] rfl ⟨rfl, rfl, trivial⟩ (by simp [opvs, opv, nth, pvs, rnS, rnA, rnC, rnI]; exact hE) fun i1 hi1 => ?_
          ((conv => whnf); (repeat ((first | refine BoxN.own ?_ | refine VrN.norm (wrap_i64 (by omega)) ?_ | refine VrN.keep ?_ | refine DrawN.calm (by decide +kernel) ?_ | refine Nd.mk (by decide +kernel) ?_ | refine Nd.mk (by omega) ?_ | (refine Nd.mk ?_ ?_; focus ((repeat' (first | exact trivial | exact wkE_refl _ | refine And.intro ?_ ?_)); done)) | refine RdN.intro _ rfl (by rfl) ?_); (conv => whnf))))
          refine ⟨(i + 1, none, i1), ⟨by omega, hq, by rw [hnext]; exact hi1⟩, by show l.length - (i + 1) < l.length - i; omega, ?_, ?_⟩
          · (repeat' (first | exact trivial | refine And.intro (by with_reducible rfl) ?_ | (with_reducible exact wkC_refl _) | (with_reducible exact wkCs_refl _) | refine And.intro ?_ ?_))
            all_goals exact av_int (by first | omega | (rw [wrap_i64 (by omega)]; omega))
          · show wkH _ (prH G b c k b0 cap0 none (out ++ [32, 61, 32, 34, 34, 10] ++ (l.take (i + 1)).flatMap (progP out)) i1)
            rw [hnext]
            exact wkH_cons rfl (wkH_cons rfl (wkH_cons rfl (wkH_cons rfl (wkH_cons rfl (wkH_cons (by simp [bC, rnE, rnC, rnCs, rnI]) (wkH_cons (by simp [rnE]) (wkH_nil _)))))))
        · subst hk
          ((conv => whnf); (repeat ((first | refine BoxN.own ?_ | refine VrN.norm (wrap_i64 (by omega)) ?_ | refine VrN.keep ?_ | refine DrawN.calm (by decide +kernel) ?_ | refine Nd.mk (by decide +kernel) ?_ | refine Nd.mk (by omega) ?_ | (refine Nd.mk ?_ ?_; focus ((repeat' (first | exact trivial | exact wkE_refl _ | refine And.intro ?_ ?_)); done)) | refine RdN.intro _ rfl (by rfl) ?_); (conv => whnf))))
          -- one text behind another
          try (refine Nd.mk (by simp only [ByteArray.size_append, bs_size, z3, z4, z4', z2, z1, z7, z6]; omega) ?_; ((conv => whnf); (repeat ((first | refine BoxN.own ?_ | refine VrN.norm (wrap_i64 (by omega)) ?_ | refine VrN.keep ?_ | refine DrawN.calm (by decide +kernel) ?_ | refine Nd.mk (by decide +kernel) ?_ | refine Nd.mk (by omega) ?_ | (refine Nd.mk ?_ ?_; focus ((repeat' (first | exact trivial | exact wkE_refl _ | refine And.intro ?_ ?_)); done)) | refine RdN.intro _ rfl (by rfl) ?_); (conv => whnf)))))
          -- one text behind another
          try (refine Nd.mk (by simp only [ByteArray.size_append, bs_size, z3, z4, z4', z2, z1, z7, z6]; omega) ?_; ((conv => whnf); (repeat ((first | refine BoxN.own ?_ | refine VrN.norm (wrap_i64 (by omega)) ?_ | refine VrN.keep ?_ | refine DrawN.calm (by decide +kernel) ?_ | refine Nd.mk (by decide +kernel) ?_ | refine Nd.mk (by omega) ?_ | (refine Nd.mk ?_ ?_; focus ((repeat' (first | exact trivial | exact wkE_refl _ | refine And.intro ?_ ?_)); done)) | refine RdN.intro _ rfl (by rfl) ?_); (conv => whnf)))))
          -- one text behind another
          try (refine Nd.mk (by simp only [ByteArray.size_append, bs_size, z3, z4, z4', z2, z1, z7, z6]; omega) ?_; ((conv => whnf); (repeat ((first | refine BoxN.own ?_ | refine VrN.norm (wrap_i64 (by omega)) ?_ | refine VrN.keep ?_ | refine DrawN.calm (by decide +kernel) ?_ | refine Nd.mk (by decide +kernel) ?_ | refine Nd.mk (by omega) ?_ | (refine Nd.mk ?_ ?_; focus ((repeat' (first | exact trivial | exact wkE_refl _ | refine And.intro ?_ ?_)); done)) | refine RdN.intro _ rfl (by rfl) ?_); (conv => whnf)))))
          -- one text behind another
          try (refine Nd.mk (by simp only [ByteArray.size_append, bs_size, z3, z4, z4', z2, z1, z7, z6]; omega) ?_; ((conv => whnf); (repeat ((first | refine BoxN.own ?_ | refine VrN.norm (wrap_i64 (by omega)) ?_ | refine VrN.keep ?_ | refine DrawN.calm (by decide +kernel) ?_ | refine Nd.mk (by decide +kernel) ?_ | refine Nd.mk (by omega) ?_ | (refine Nd.mk ?_ ?_; focus ((repeat' (first | exact trivial | exact wkE_refl _ | refine And.intro ?_ ?_)); done)) | refine RdN.intro _ rfl (by rfl) ?_); (conv => whnf)))))
          -- one text behind another
          try (refine Nd.mk (by simp only [ByteArray.size_append, bs_size, z3, z4, z4', z2, z1, z7, z6]; omega) ?_; ((conv => whnf); (repeat ((first | refine BoxN.own ?_ | refine VrN.norm (wrap_i64 (by omega)) ?_ | refine VrN.keep ?_ | refine DrawN.calm (by decide +kernel) ?_ | refine Nd.mk (by decide +kernel) ?_ | refine Nd.mk (by omega) ?_ | (refine Nd.mk ?_ ?_; focus ((repeat' (first | exact trivial | exact wkE_refl _ | refine And.intro ?_ ?_)); done)) | refine RdN.intro _ rfl (by rfl) ?_); (conv => whnf)))))
          -- the bytes of a part are written, the round is over
          have hE : bs out ++ bs [32, 61, 32] ++ bs out ++ bs [32, 43, 32, 40] ++ bs t ++ bs [41, 46, 116, 111, 95, 115, 10] = bs (progP out ⟨2, line, t⟩) := by
            simp only [bs_app]
            simp [progP]
          have hPl : (progP out ⟨2, line, t⟩).length ≤ 100 * (1 + t.length) := progP_len out n2 ⟨2, line, t⟩
          refine callG (WriteString_c true A (progP out ⟨2, line, t⟩) bst hb (by omega)) [5, 6] rfl ⟨rfl, rfl, trivial⟩ (by simp [opvs, opv, nth, pvs, rnS, rnA, rnC, rnI]; exact hE) fun i1 hi1 => ?_
          ((conv => whnf); (repeat ((first | refine BoxN.own ?_ | refine VrN.norm (wrap_i64 (by omega)) ?_ | refine VrN.keep ?_ | refine DrawN.calm (by decide +kernel) ?_ | refine Nd.mk (by decide +kernel) ?_ | refine Nd.mk (by omega) ?_ | (refine Nd.mk ?_ ?_; focus ((repeat' (first | exact trivial | exact wkE_refl _ | refine And.intro ?_ ?_)); done)) | refine RdN.intro _ rfl (by rfl) ?_); (conv => whnf))))
          refine ⟨(i + 1, none, i1), ⟨by omega, hq, by rw [hnext]; exact hi1⟩, by show l.length - (i + 1) < l.length - i; omega, ?_, ?_⟩
          · (repeat' (first | exact trivial | refine And.intro (by with_reducible rfl) ?_ | (with_reducible exact wkC_refl _) | (with_reducible exact wkCs_refl _) | refine And.intro ?_ ?_))
            all_goals exact av_int (by first | omega | (rw [wrap_i64 (by omega)]; omega))
          · show wkH _ (prH G b c k b0 cap0 none (out ++ [32, 61, 32, 34, 34, 10] ++ (l.take (i + 1)).flatMap (progP out)) i1)
            rw [hnext]
            exact wkH_cons rfl (wkH_cons rfl (wkH_cons rfl (wkH_cons rfl (wkH_cons rfl (wkH_cons (by simp [bC, rnE, rnC, rnCs, rnI]) (wkH_cons (by simp [rnE]) (wkH_nil _)))))))
        · have hP : progP out ⟨3, line, t⟩ = [] := rfl
          subst hk
          ((conv => whnf); (repeat ((first | refine BoxN.own ?_ | refine VrN.norm (wrap_i64 (by omega)) ?_ | refine VrN.keep ?_ | refine DrawN.calm (by decide +kernel) ?_ | refine Nd.mk (by decide +kernel) ?_ | refine Nd.mk (by omega) ?_ | (refine Nd.mk ?_ ?_; focus ((repeat' (first | exact trivial | exact wkE_refl _ | refine And.intro ?_ ?_)); done)) | refine RdN.intro _ rfl (by rfl) ?_); (conv => whnf))))
          refine ⟨(i + 1, none, bst), ⟨by omega, hq, by rw [hnext, hP, List.append_nil]; exact hb⟩, by show l.length - (i + 1) < l.length - i; omega, ?_, ?_⟩
          · (repeat' (first | exact trivial | refine And.intro (by with_reducible rfl) ?_ | (with_reducible exact wkC_refl _) | (with_reducible exact wkCs_refl _) | refine And.intro ?_ ?_))
            all_goals exact av_int (by first | omega | (rw [wrap_i64 (by omega)]; omega))
          · show wkH _ (prH G b c k b0 cap0 none (out ++ [32, 61, 32, 34, 34, 10] ++ (l.take (i + 1)).flatMap (progP out)) bst)
            rw [hnext, hP, List.append_nil]
            exact ⟨wkE_refl _, wkE_refl _, wkE_refl _, wkE_refl _, wkE_refl _, wkE_refl _, wkE_refl _, wkH_nil _⟩
      · have hil : i = l.length := by omega
        subst hil
        have hA : (out ++ [32, 61, 32, 34, 34, 10] ++ l.flatMap (progP out)).length ≤ 20000000 := by
          rw [List.take_length] at hpl
          simp only [List.length_append, List.length_cons, List.length_nil]
          omega
        rw [List.take_length] at hb ⊢
        generalize out ++ [32, 61, 32, 34, 34, 10] ++ l.flatMap (progP out) = A at *
        ((conv => whnf); (repeat ((first | refine BoxN.own ?_ | refine VrN.norm (wrap_i64 (by omega)) ?_ | refine VrN.keep ?_ | refine DrawN.calm (by decide +kernel) ?_ | refine Nd.mk (by decide +kernel) ?_ | refine Nd.mk (by omega) ?_ | (refine Nd.mk ?_ ?_; focus ((repeat' (first | exact trivial | exact wkE_refl _ | refine And.intro ?_ ?_)); done)) | refine RdN.intro _ rfl (by rfl) ?_); (conv => whnf))))
        -- one text behind another
        try (refine Nd.mk (by simp only [ByteArray.size_append, bs_size, z3, z4, z4', z2, z1, z7, z6]; omega) ?_; ((conv => whnf); (repeat ((first | refine BoxN.own ?_ | refine VrN.norm (wrap_i64 (by omega)) ?_ | refine VrN.keep ?_ | refine DrawN.calm (by decide +kernel) ?_ | refine Nd.mk (by decide +kernel) ?_ | refine Nd.mk (by omega) ?_ | (refine Nd.mk ?_ ?_; focus ((repeat' (first | exact trivial | exact wkE_refl _ | refine And.intro ?_ ?_)); done)) | refine RdN.intro _ rfl (by rfl) ?_); (conv => whnf)))))
        have hE : bs out ++ bs [10] = bs (out ++ [10]) := bs_app _ _
        refine callG (WriteString_c true A (out ++ [10]) bst hb (by simp; omega)) [5, 6] rfl ⟨rfl, rfl, trivial⟩ (by simp [opvs, opv, nth, pvs, rnS, rnA, rnC, rnI]; exact hE) fun i1 hi1 => ?_
        ((conv => whnf); (repeat ((first | refine BoxN.own ?_ | refine VrN.norm (wrap_i64 (by omega)) ?_ | refine VrN.keep ?_ | refine DrawN.calm (by decide +kernel) ?_ | refine Nd.mk (by decide +kernel) ?_ | refine Nd.mk (by omega) ?_ | (refine Nd.mk ?_ ?_; focus ((repeat' (first | exact trivial | exact wkE_refl _ | refine And.intro ?_ ?_)); done)) | refine RdN.intro _ rfl (by rfl) ?_); (conv => whnf))))
        refine callG (BString_c true (A ++ (out ++ [10])) i1 hi1) [5, 6] rfl ⟨rfl, rfl, trivial⟩ rfl fun _ _ => ?_
        ((conv => whnf); (repeat ((first | refine BoxN.own ?_ | refine VrN.norm (wrap_i64 (by omega)) ?_ | refine VrN.keep ?_ | refine DrawN.calm (by decide +kernel) ?_ | refine Nd.mk (by decide +kernel) ?_ | refine Nd.mk (by omega) ?_ | (refine Nd.mk ?_ ?_; focus ((repeat' (first | exact trivial | exact wkE_refl _ | refine And.intro ?_ ?_)); done)) | refine RdN.intro _ rfl (by rfl) ?_); (conv => whnf))))
    | some d =>
      have hd := hq d rfl
      ((conv => whnf); (repeat ((first | refine BoxN.own ?_ | refine VrN.norm (wrap_i64 (by omega)) ?_ | refine VrN.keep ?_ | refine DrawN.calm (by decide +kernel) ?_ | refine Nd.mk (by decide +kernel) ?_ | refine Nd.mk (by omega) ?_ | (refine Nd.mk ?_ ?_; focus ((repeat' (first | exact trivial | exact wkE_refl _ | refine And.intro ?_ ?_)); done)) | refine RdN.intro _ rfl (by rfl) ?_); (conv => whnf))))
      refine brd_dec (fun h1 => ?_) (fun h1 => ?_)
      · obtain ⟨⟨kk, line, t⟩, hp⟩ : ∃ p, l[i]? = some p := ⟨_, List.getElem?_eq_getElem (by omega)⟩
        have htm := mass_mem (List.mem_of_getElem? hp)
        have htm : 1 + t.length ≤ mass l := htm
        have hql := qt_len t
        have hnext : out ++ [32, 61, 32, 34, 34, 10] ++ (l.take (i + 1)).flatMap (progP out) = (out ++ [32, 61, 32, 34, 34, 10] ++ (l.take i).flatMap (progP out)) ++ progP out ⟨kk, line, t⟩ := by rw [prog_snoc out hp]; simp
        have hA : (out ++ [32, 61, 32, 34, 34, 10] ++ (l.take i).flatMap (progP out)).length ≤ 20000000 := by
          simp only [List.length_append, List.length_cons, List.length_nil]
          omega
        generalize out ++ [32, 61, 32, 34, 34, 10] ++ (l.take i).flatMap (progP out) = A at *
        have hsa : (at0 ob).isSome = true := by
          cases ob with
          | none => rw [hn rfl] at hp; cases hp
          | some _ => rfl
        ((conv => whnf); (repeat ((first | refine BoxN.own ?_ | refine VrN.norm (wrap_i64 (by omega)) ?_ | refine VrN.keep ?_ | refine DrawN.calm (by decide +kernel) ?_ | refine Nd.mk (by decide +kernel) ?_ | refine Nd.mk (by omega) ?_ | (refine Nd.mk ?_ ?_; focus ((repeat' (first | exact trivial | exact wkE_refl _ | refine And.intro ?_ ?_)); done)) | refine RdN.intro _ rfl (by rfl) ?_); (conv => whnf))))
        refine Nd.mk ⟨hsa, by omega, by omega⟩ ?_
        ((conv => whnf); (repeat ((first | refine BoxN.own ?_ | refine VrN.norm (wrap_i64 (by omega)) ?_ | refine VrN.keep ?_ | refine DrawN.calm (by decide +kernel) ?_ | refine Nd.mk (by decide +kernel) ?_ | refine Nd.mk (by omega) ?_ | (refine Nd.mk ?_ ?_; focus ((repeat' (first | exact trivial | exact wkE_refl _ | refine And.intro ?_ ?_)); done)) | refine RdN.intro _ rfl (by rfl) ?_); (conv => whnf))))
        refine LdN.agg (n := 3) (partC ⟨kk, line, t⟩) rfl (fun w hw => hG w hw.2.1) rfl (fun j hj => by rw [Int.toNat_natCast]; exact partsC_get l i j hj hp) ?_
        ((conv => whnf); (repeat ((first | refine BoxN.own ?_ | refine VrN.norm (wrap_i64 (by omega)) ?_ | refine VrN.keep ?_ | refine DrawN.calm (by decide +kernel) ?_ | refine Nd.mk (by decide +kernel) ?_ | refine Nd.mk (by omega) ?_ | (refine Nd.mk ?_ ?_; focus ((repeat' (first | exact trivial | exact wkE_refl _ | refine And.intro ?_ ?_)); done)) | refine RdN.intro _ rfl (by rfl) ?_); (conv => whnf))))
        rcases kindsK kk with hk | hk | hk | hk | hk | hk
        · have hP : progP out ⟨kk, line, t⟩ = [] := by
            unfold progP
            simp [show ¬ kk = 0 by omega, show ¬ kk = 1 by omega, show ¬ kk = 2 by omega]
          refine brd_eq (fun h => absurd (show kk = 0 from h) (by omega)) (fun _ => ?_)
          ((conv => whnf); (repeat ((first | refine BoxN.own ?_ | refine VrN.norm (wrap_i64 (by omega)) ?_ | refine VrN.keep ?_ | refine DrawN.calm (by decide +kernel) ?_ | refine Nd.mk (by decide +kernel) ?_ | refine Nd.mk (by omega) ?_ | (refine Nd.mk ?_ ?_; focus ((repeat' (first | exact trivial | exact wkE_refl _ | refine And.intro ?_ ?_)); done)) | refine RdN.intro _ rfl (by rfl) ?_); (conv => whnf))))
          refine brd_eq (fun h => absurd (show kk = 1 from h) (by omega)) (fun _ => ?_)
          ((conv => whnf); (repeat ((first | refine BoxN.own ?_ | refine VrN.norm (wrap_i64 (by omega)) ?_ | refine VrN.keep ?_ | refine DrawN.calm (by decide +kernel) ?_ | refine Nd.mk (by decide +kernel) ?_ | refine Nd.mk (by omega) ?_ | (refine Nd.mk ?_ ?_; focus ((repeat' (first | exact trivial | exact wkE_refl _ | refine And.intro ?_ ?_)); done)) | refine RdN.intro _ rfl (by rfl) ?_); (conv => whnf))))
          refine brd_eq (fun h => absurd (show kk = 2 from h) (by omega)) (fun _ => ?_)
          ((conv => whnf); (repeat ((first | refine BoxN.own ?_ | refine VrN.norm (wrap_i64 (by omega)) ?_ | refine VrN.keep ?_ | refine DrawN.calm (by decide +kernel) ?_ | refine Nd.mk (by decide +kernel) ?_ | refine Nd.mk (by omega) ?_ | (refine Nd.mk ?_ ?_; focus ((repeat' (first | exact trivial | exact wkE_refl _ | refine And.intro ?_ ?_)); done)) | refine RdN.intro _ rfl (by rfl) ?_); (conv => whnf))))
          refine ⟨(i + 1, (some d), bst), ⟨by omega, hq, by rw [hnext, hP, List.append_nil]; exact hb⟩, by show l.length - (i + 1) < l.length - i; omega, ?_, ?_⟩
          · (repeat' (first | exact trivial | refine And.intro (by with_reducible rfl) ?_ | (with_reducible exact wkC_refl _) | (with_reducible exact wkCs_refl _) | refine And.intro ?_ ?_))
            all_goals exact av_int (by first | omega | (rw [wrap_i64 (by omega)]; omega))
          · show wkH _ (prH G b c k b0 cap0 (some d) (out ++ [32, 61, 32, 34, 34, 10] ++ (l.take (i + 1)).flatMap (progP out)) bst)
            rw [hnext, hP, List.append_nil]
            exact ⟨wkE_refl _, wkE_refl _, wkE_refl _, wkE_refl _, wkE_refl _, wkE_refl _, wkE_refl _, wkH_nil _⟩
        · have hP : progP out ⟨kk, line, t⟩ = [] := by
            unfold progP
            simp [show ¬ kk = 0 by omega, show ¬ kk = 1 by omega, show ¬ kk = 2 by omega]
          refine brd_eq (fun h => absurd (show kk = 0 from h) (by omega)) (fun _ => ?_)
          ((conv => whnf); (repeat ((first | refine BoxN.own ?_ | refine VrN.norm (wrap_i64 (by omega)) ?_ | refine VrN.keep ?_ | refine DrawN.calm (by decide +kernel) ?_ | refine Nd.mk (by decide +kernel) ?_ | refine Nd.mk (by omega) ?_ | (refine Nd.mk ?_ ?_; focus ((repeat' (first | exact trivial | exact wkE_refl _ | refine And.intro ?_ ?_)); done)) | refine RdN.intro _ rfl (by rfl) ?_); (conv => whnf))))
          refine brd_eq (fun h => absurd (show kk = 1 from h) (by omega)) (fun _ => ?_)
          ((conv => whnf); (repeat ((first | refine BoxN.own ?_ | refine VrN.norm (wrap_i64 (by omega)) ?_ | refine VrN.keep ?_ | refine DrawN.calm (by decide +kernel) ?_ | refine Nd.mk (by decide +kernel) ?_ | refine Nd.mk (by omega) ?_ | (refine Nd.mk ?_ ?_; focus ((repeat' (first | exact trivial | exact wkE_refl _ | refine And.intro ?_ ?_)); done)) | refine RdN.intro _ rfl (by rfl) ?_); (conv => whnf))))
          refine brd_eq (fun h => absurd (show kk = 2 from h) (by omega)) (fun _ => ?_)
          ((conv => whnf); (repeat ((first | refine BoxN.own ?_ | refine VrN.norm (wrap_i64 (by omega)) ?_ | refine VrN.keep ?_ | refine DrawN.calm (by decide +kernel) ?_ | refine Nd.mk (by decide +kernel) ?_ | refine Nd.mk (by omega) ?_ | (refine Nd.mk ?_ ?_; focus ((repeat' (first | exact trivial | exact wkE_refl _ | refine And.intro ?_ ?_)); done)) | refine RdN.intro _ rfl (by rfl) ?_); (conv => whnf))))
          refine ⟨(i + 1, (some d), bst), ⟨by omega, hq, by rw [hnext, hP, List.append_nil]; exact hb⟩, by show l.length - (i + 1) < l.length - i; omega, ?_, ?_⟩
          · (repeat' (first | exact trivial | refine And.intro (by with_reducible rfl) ?_ | (with_reducible exact wkC_refl _) | (with_reducible exact wkCs_refl _) | refine And.intro ?_ ?_))
            all_goals exact av_int (by first | omega | (rw [wrap_i64 (by omega)]; omega))
          · show wkH _ (prH G b c k b0 cap0 (some d) (out ++ [32, 61, 32, 34, 34, 10] ++ (l.take (i + 1)).flatMap (progP out)) bst)
            rw [hnext, hP, List.append_nil]
            exact ⟨wkE_refl _, wkE_refl _, wkE_refl _, wkE_refl _, wkE_refl _, wkE_refl _, wkE_refl _, wkH_nil _⟩
        · subst hk
          ((conv => whnf); (repeat ((first | refine BoxN.own ?_ | refine VrN.norm (wrap_i64 (by omega)) ?_ | refine VrN.keep ?_ | refine DrawN.calm (by decide +kernel) ?_ | refine Nd.mk (by decide +kernel) ?_ | refine Nd.mk (by omega) ?_ | (refine Nd.mk ?_ ?_; focus ((repeat' (first | exact trivial | exact wkE_refl _ | refine And.intro ?_ ?_)); done)) | refine RdN.intro _ rfl (by rfl) ?_); (conv => whnf))))
          -- one text behind another
          try (refine Nd.mk (by simp only [ByteArray.size_append, bs_size, z3, z4, z4', z2, z1, z7, z6]; omega) ?_; ((conv => whnf); (repeat ((first | refine BoxN.own ?_ | refine VrN.norm (wrap_i64 (by omega)) ?_ | refine VrN.keep ?_ | refine DrawN.calm (by decide +kernel) ?_ | refine Nd.mk (by decide +kernel) ?_ | refine Nd.mk (by omega) ?_ | (refine Nd.mk ?_ ?_; focus ((repeat' (first | exact trivial | exact wkE_refl _ | refine And.intro ?_ ?_)); done)) | refine RdN.intro _ rfl (by rfl) ?_); (conv => whnf)))))
          -- one text behind another
          try (refine Nd.mk (by simp only [ByteArray.size_append, bs_size, z3, z4, z4', z2, z1, z7, z6]; omega) ?_; ((conv => whnf); (repeat ((first | refine BoxN.own ?_ | refine VrN.norm (wrap_i64 (by omega)) ?_ | refine VrN.keep ?_ | refine DrawN.calm (by decide +kernel) ?_ | refine Nd.mk (by decide +kernel) ?_ | refine Nd.mk (by omega) ?_ | (refine Nd.mk ?_ ?_; focus ((repeat' (first | exact trivial | exact wkE_refl _ | refine And.intro ?_ ?_)); done)) | refine RdN.intro _ rfl (by rfl) ?_); (conv => whnf)))))
          -- one text behind another
          try (refine Nd.mk (by simp only [ByteArray.size_append, bs_size, z3, z4, z4', z2, z1, z7, z6]; omega) ?_; ((conv => whnf); (repeat ((first | refine BoxN.own ?_ | refine VrN.norm (wrap_i64 (by omega)) ?_ | refine VrN.keep ?_ | refine DrawN.calm (by decide +kernel) ?_ | refine Nd.mk (by decide +kernel) ?_ | refine Nd.mk (by omega) ?_ | (refine Nd.mk ?_ ?_; focus ((repeat' (first | exact trivial | exact wkE_refl _ | refine And.intro ?_ ?_)); done)) | refine RdN.intro _ rfl (by rfl) ?_); (conv => whnf)))))
          refine call1 (done_c qt qtL d hd b t (by omega) _ fun w hw => hw.2.2.2.1) ?_
          ((conv => whnf); (repeat ((first | refine BoxN.own ?_ | refine VrN.norm (wrap_i64 (by omega)) ?_ | refine VrN.keep ?_ | refine DrawN.calm (by decide +kernel) ?_ | refine Nd.mk (by decide +kernel) ?_ | refine Nd.mk (by omega) ?_ | (refine Nd.mk ?_ ?_; focus ((repeat' (first | exact trivial | exact wkE_refl _ | refine And.intro ?_ ?_)); done)) | refine RdN.intro _ rfl (by rfl) ?_); (conv => whnf))))
          -- one text behind another
          try (refine Nd.mk (by simp only [ByteArray.size_append, bs_size, z3, z4, z4', z2, z1, z7, z6]; omega) ?_; ((conv => whnf); (repeat ((first | refine BoxN.own ?_ | refine VrN.norm (wrap_i64 (by omega)) ?_ | refine VrN.keep ?_ | refine DrawN.calm (by decide +kernel) ?_ | refine Nd.mk (by decide +kernel) ?_ | refine Nd.mk (by omega) ?_ | (refine Nd.mk ?_ ?_; focus ((repeat' (first | exact trivial | exact wkE_refl _ | refine And.intro ?_ ?_)); done)) | refine RdN.intro _ rfl (by rfl) ?_); (conv => whnf)))))
          -- one text behind another
          try (refine Nd.mk (by simp only [ByteArray.size_append, bs_size, z3, z4, z4', z2, z1, z7, z6]; omega) ?_; ((conv => whnf); (repeat ((first | refine BoxN.own ?_ | refine VrN.norm (wrap_i64 (by omega)) ?_ | refine VrN.keep ?_ | refine DrawN.calm (by decide +kernel) ?_ | refine Nd.mk (by decide +kernel) ?_ | refine Nd.mk (by omega) ?_ | (refine Nd.mk ?_ ?_; focus ((repeat' (first | exact trivial | exact wkE_refl _ | refine And.intro ?_ ?_)); done)) | refine RdN.intro _ rfl (by rfl) ?_); (conv => whnf)))))
          -- the bytes of a part are written, the round is over
          have hE : bs out ++ bs [32, 61, 32] ++ bs out ++ bs [32, 43, 32, 34] ++ bs (t.flatMap qt) ++ bs [34, 10] = bs (progP out ⟨0, line, t⟩) := by
            simp only [bs_app]
            simp [progP]
          have hPl : (progP out ⟨0, line, t⟩).length ≤ 100 * (1 + t.length) := progP_len out n2 ⟨0, line, t⟩
          refine callG (WriteString_c true A (progP out ⟨0, line, t⟩) bst hb (by omega)) [5, 6] rfl ⟨rfl, rfl, trivial⟩ (by simp [opvs, opv, nth, pvs, rnS, rnA, rnC, rnI]; exact hE) fun i1 hi1 => ?_
          ((conv => whnf); (repeat ((first | refine BoxN.own ?_ | refine VrN.norm (wrap_i64 (by omega)) ?_ | refine VrN.keep ?_ | refine DrawN.calm (by decide +kernel) ?_ | refine Nd.mk (by decide +kernel) ?_ | refine Nd.mk (by omega) ?_ | (refine Nd.mk ?_ ?_; focus ((repeat' (first | exact trivial | exact wkE_refl _ | refine And.intro ?_ ?_)); done)) | refine RdN.intro _ rfl (by rfl) ?_); (conv => whnf))))
          refine ⟨(i + 1, (some d), i1), ⟨by omega, hq, by rw [hnext]; exact hi1⟩, by show l.length - (i + 1) < l.length - i; omega, ?_, ?_⟩
          · (repeat' (first | exact trivial | refine And.intro (by with_reducible rfl) ?_ | (with_reducible exact wkC_refl _) | (with_reducible exact wkCs_refl _) | refine And.intro ?_ ?_))
            all_goals exact av_int (by first | omega | (rw [wrap_i64 (by omega)]; omega))
          · show wkH _ (prH G b c k b0 cap0 (some d) (out ++ [32, 61, 32, 34, 34, 10] ++ (l.take (i + 1)).flatMap (progP out)) i1)
            rw [hnext]
            exact wkH_cons rfl (wkH_cons rfl (wkH_cons rfl (wkH_cons rfl (wkH_cons rfl (wkH_cons (by simp [bC, rnE, rnC, rnCs, rnI]) (wkH_cons (by simp [rnE]) (wkH_nil _)))))))
        · subst hk
          ((conv => whnf); (repeat ((first | refine BoxN.own ?_ | refine VrN.norm (wrap_i64 (by omega)) ?_ | refine VrN.keep ?_ | refine DrawN.calm (by decide +kernel) ?_ | refine Nd.mk (by decide +kernel) ?_ | refine Nd.mk (by omega) ?_ | (refine Nd.mk ?_ ?_; focus ((repeat' (first | exact trivial | exact wkE_refl _ | refine And.intro ?_ ?_)); done)) | refine RdN.intro _ rfl (by rfl) ?_); (conv => whnf))))
          -- one text behind another
          try (refine Nd.mk (by simp only [ByteArray.size_append, bs_size, z3, z4, z4', z2, z1, z7, z6]; omega) ?_; ((conv => whnf); (repeat ((first | refine BoxN.own ?_ | refine VrN.norm (wrap_i64 (by omega)) ?_ | refine VrN.keep ?_ | refine DrawN.calm (by decide +kernel) ?_ | refine Nd.mk (by decide +kernel) ?_ | refine Nd.mk (by omega) ?_ | (refine Nd.mk ?_ ?_; focus ((repeat' (first | exact trivial | exact wkE_refl _ | refine And.intro ?_ ?_)); done)) | refine RdN.intro _ rfl (by rfl) ?_); (conv => whnf)))))
          -- the bytes of a part are written, the round is over
          have hE : bs t ++ bs [10] = bs (progP out ⟨1, line, t⟩) := by
            simp only [bs_app]
            simp [progP]
          have hPl : (progP out ⟨1, line, t⟩).length ≤ 100 * (1 + t.length) := progP_len out n2 ⟨1, line, t⟩
          refine callG (WriteString_c true A (progP out ⟨1, line, t⟩) bst hb (by omega)) [5, 6] rfl ⟨rfl, rfl, trivial⟩ (by simp [opvs, opv, nth, pvs, rnS, rnA, rnC, rnI]; exact hE) fun i1 hi1 => ?_
          ((conv => whnf); (repeat ((first | refine BoxN.own ?_ | refine VrN.norm (wrap_i64 (by omega)) ?_ | refine VrN.keep ?_ | refine DrawN.calm (by decide +kernel) ?_ | refine Nd.mk (by decide +kernel) ?_ | refine Nd.mk (by omega) ?_ | (refine Nd.mk ?_ ?_; focus ((repeat' (first | exact trivial | exact wkE_refl _ | refine And.intro ?_ ?_)); done)) | refine RdN.intro _ rfl (by rfl) ?_); (conv => whnf))))
          refine ⟨(i + 1, (some d), i1), ⟨by omega, hq, by rw [hnext]; exact hi1⟩, by show l.length - (i + 1) < l.length - i; omega, ?_, ?_⟩
          · (repeat' (first | exact trivial | refine And.intro (by with_reducible rfl) ?_ | (with_reducible exact wkC_refl _) | (with_reducible exact wkCs_refl _) | refine And.intro ?_ ?_))
            all_goals exact av_int (by first | omega | (rw [wrap_i64 (by omega)]; omega))
          · show wkH _ (prH G b c k b0 cap0 (some d) (out ++ [32, 61, 32, 34, 34, 10] ++ (l.take (i + 1)).flatMap (progP out)) i1)
            rw [hnext]
            exact wkH_cons rfl (wkH_cons rfl (wkH_cons rfl (wkH_cons rfl (wkH_cons rfl (wkH_cons (by simp [bC, rnE, rnC, rnCs, rnI]) (wkH_cons (by simp [rnE]) (wkH_nil _)))))))
        · subst hk
          ((conv => whnf); (repeat ((first | refine BoxN.own ?_ | refine VrN.norm (wrap_i64 (by omega)) ?_ | refine VrN.keep ?_ | refine DrawN.calm (by decide +kernel) ?_ | refine Nd.mk (by decide +kernel) ?_ | refine Nd.mk (by omega) ?_ | (refine Nd.mk ?_ ?_; focus ((repeat' (first | exact trivial | exact wkE_refl _ | refine And.intro ?_ ?_)); done)) | refine RdN.intro _ rfl (by rfl) ?_); (conv => whnf))))
          -- one text behind another
          try (refine Nd.mk (by simp only [ByteArray.size_append, bs_size, z3, z4, z4', z2, z1, z7, z6]; omega) ?_; ((conv => whnf); (repeat ((first | refine BoxN.own ?_ | refine VrN.norm (wrap_i64 (by omega)) ?_ | refine VrN.keep ?_ | refine DrawN.calm (by decide +kernel) ?_ | refine Nd.mk (by decide +kernel) ?_ | refine Nd.mk (by omega) ?_ | (refine Nd.mk ?_ ?_; focus ((repeat' (first | exact trivial | exact wkE_refl _ | refine And.intro ?_ ?_)); done)) | refine RdN.intro _ rfl (by rfl) ?_); (conv => whnf)))))
          -- one text behind another
          try (refine Nd.mk (by simp only [ByteArray.size_append, bs_size, z3, z4, z4', z2, z1, z7, z6]; omega) ?_; ((conv => whnf); (repeat ((first | refine BoxN.own ?_ | refine VrN.norm (wrap_i64 (by omega)) ?_ | refine VrN.keep ?_ | refine DrawN.calm (by decide +kernel) ?_ | refine Nd.mk (by decide +kernel) ?_ | refine Nd.mk (by omega) ?_ | (refine Nd.mk ?_ ?_; focus ((repeat' (first | exact trivial | exact wkE_refl _ | refine And.intro ?_ ?_)); done)) | refine RdN.intro _ rfl (by rfl) ?_); (conv => whnf)))))
          -- one text behind another
          try (refine Nd.mk (by simp only [ByteArray.size_append, bs_size, z3, z4, z4', z2, z1, z7, z6]; omega) ?_; ((conv => whnf); (repeat ((first | refine BoxN.own ?_ | refine VrN.norm (wrap_i64 (by omega)) ?_ | refine VrN.keep ?_ | refine DrawN.calm (by decide +kernel) ?_ | refine Nd.mk (by decide +kernel) ?_ | refine Nd.mk (by omega) ?_ | (refine Nd.mk ?_ ?_; focus ((repeat' (first | exact trivial | exact wkE_refl _ | refine And.intro ?_ ?_)); done)) | refine RdN.intro _ rfl (by rfl) ?_); (conv => whnf)))))
          -- one text behind another
          try (refine Nd.mk (by simp only [ByteArray.size_append, bs_size, z3, z4, z4', z2, z1, z7, z6]; omega) ?_; ((conv => whnf); (repeat ((first | refine BoxN.own ?_ | refine VrN.norm (wrap_i64 (by omega)) ?_ | refine VrN.keep ?_ | refine DrawN.calm (by decide +kernel) ?_ | refine Nd.mk (by decide +kernel) ?_ | refine Nd.mk (by omega) ?_ | (refine Nd.mk ?_ ?_; focus ((repeat' (first | exact trivial | exact wkE_refl _ | refine And.intro ?_ ?_)); done)) | refine RdN.intro _ rfl (by rfl) ?_); (conv => whnf)))))
          -- one text behind another
          try (refine Nd.mk (by simp only [ByteArray.size_append, bs_size, z3, z4, z4', z2, z1, z7, z6]; omega) ?_; ((conv => whnf); (repeat ((first | refine BoxN.own ?_ | refine VrN.norm (wrap_i64 (by omega)) ?_ | refine VrN.keep ?_ | refine DrawN.calm (by decide +kernel) ?_ | refine Nd.mk (by decide +kernel) ?_ | refine Nd.mk (by omega) ?_ | (refine Nd.mk ?_ ?_; focus ((repeat' (first | exact trivial | exact wkE_refl _ | refine And.intro ?_ ?_)); done)) | refine RdN.intro _ rfl (by rfl) ?_); (conv => whnf)))))
          -- the bytes of a part are written, the round is over
          have hE : bs out ++ bs [32, 61, 32] ++ bs out ++ bs [32, 43, 32, 40] ++ bs t ++ bs [41, 46, 116, 111, 95, 115, 10] = bs (progP out ⟨2, line, t⟩) := by
            simp only [bs_app]
            simp [progP]
          have hPl : (progP out ⟨2, line, t⟩).length ≤ 100 * (1 + t.length) := progP_len out n2 ⟨2, line, t⟩
          refine callG (WriteString_c true A (progP out ⟨2, line, t⟩) bst hb (by omega)) [5, 6] rfl ⟨rfl, rfl, trivial⟩ (by simp [opvs, opv, nth, pvs, rnS, rnA, rnC, rnI]; exact hE) fun i1 hi1 => ?_
          ((conv => whnf); (repeat ((first | refine BoxN.own ?_ | refine VrN.norm (wrap_i64 (by omega)) ?_ | refine VrN.keep ?_ | refine DrawN.calm (by decide +kernel) ?_ | refine Nd.mk (by decide +kernel) ?_ | refine Nd.mk (by omega) ?_ | (refine Nd.mk ?_ ?_; focus ((repeat' (first | exact trivial | exact wkE_refl _ | refine And.intro ?_ ?_)); done)) | refine RdN.intro _ rfl (by rfl) ?_); (conv => whnf))))
          refine ⟨(i + 1, (some d), i1), ⟨by omega, hq, by rw [hnext]; exact hi1⟩, by show l.length - (i + 1) < l.length - i; omega, ?_, ?_⟩
          · (repeat' (first | exact trivial | refine And.intro (by with_reducible rfl) ?_ | (with_reducible exact wkC_refl _) | (with_reducible exact wkCs_refl _) | refine And.intro ?_ ?_))
            all_goals exact av_int (by first | omega | (rw [wrap_i64 (by omega)]; omega))
          · show wkH _ (prH G b c k b0 cap0 (some d) (out ++ [32, 61, 32, 34, 34, 10] ++ (l.take (i + 1)).flatMap (progP out)) i1)
            rw [hnext]
            exact wkH_cons rfl (wkH_cons rfl (wkH_cons rfl (wkH_cons rfl (wkH_cons rfl (wkH_cons (by simp [bC, rnE, rnC, rnCs, rnI]) (wkH_cons (by simp [rnE]) (wkH_nil _)))))))
        · have hP : progP out ⟨3, line, t⟩ = [] := rfl
          subst hk
          ((conv => whnf); (repeat ((first | refine BoxN.own ?_ | refine VrN.norm (wrap_i64 (by omega)) ?_ | refine VrN.keep ?_ | refine DrawN.calm (by decide +kernel) ?_ | refine Nd.mk (by decide +kernel) ?_ | refine Nd.mk (by omega) ?_ | (refine Nd.mk ?_ ?_; focus ((repeat' (first | exact trivial | exact wkE_refl _ | refine And.intro ?_ ?_)); done)) | refine RdN.intro _ rfl (by rfl) ?_); (conv => whnf))))
          refine ⟨(i + 1, (some d), bst), ⟨by omega, hq, by rw [hnext, hP, List.append_nil]; exact hb⟩, by show l.length - (i + 1) < l.length - i; omega, ?_, ?_⟩
          · (repeat' (first | exact trivial | refine And.intro (by with_reducible rfl) ?_ | (with_reducible exact wkC_refl _) | (with_reducible exact wkCs_refl _) | refine And.intro ?_ ?_))
            all_goals exact av_int (by first | omega | (rw [wrap_i64 (by omega)]; omega))
          · show wkH _ (prH G b c k b0 cap0 (some d) (out ++ [32, 61, 32, 34, 34, 10] ++ (l.take (i + 1)).flatMap (progP out)) bst)
            rw [hnext, hP, List.append_nil]
            exact ⟨wkE_refl _, wkE_refl _, wkE_refl _, wkE_refl _, wkE_refl _, wkE_refl _, wkE_refl _, wkH_nil _⟩
      · have hil : i = l.length := by omega
        subst hil
        have hA : (out ++ [32, 61, 32, 34, 34, 10] ++ l.flatMap (progP out)).length ≤ 20000000 := by
          rw [List.take_length] at hpl
          simp only [List.length_append, List.length_cons, List.length_nil]
          omega
        rw [List.take_length] at hb ⊢
        generalize out ++ [32, 61, 32, 34, 34, 10] ++ l.flatMap (progP out) = A at *
        ((conv => whnf); (repeat ((first | refine BoxN.own ?_ | refine VrN.norm (wrap_i64 (by omega)) ?_ | refine VrN.keep ?_ | refine DrawN.calm (by decide +kernel) ?_ | refine Nd.mk (by decide +kernel) ?_ | refine Nd.mk (by omega) ?_ | (refine Nd.mk ?_ ?_; focus ((repeat' (first | exact trivial | exact wkE_refl _ | refine And.intro ?_ ?_)); done)) | refine RdN.intro _ rfl (by rfl) ?_); (conv => whnf))))
        -- one text behind another
        try (refine Nd.mk (by simp only [ByteArray.size_append, bs_size, z3, z4, z4', z2, z1, z7, z6]; omega) ?_; ((conv => whnf); (repeat ((first | refine BoxN.own ?_ | refine VrN.norm (wrap_i64 (by omega)) ?_ | refine VrN.keep ?_ | refine DrawN.calm (by decide +kernel) ?_ | refine Nd.mk (by decide +kernel) ?_ | refine Nd.mk (by omega) ?_ | (refine Nd.mk ?_ ?_; focus ((repeat' (first | exact trivial | exact wkE_refl _ | refine And.intro ?_ ?_)); done)) | refine RdN.intro _ rfl (by rfl) ?_); (conv => whnf)))))
        have hE : bs out ++ bs [10] = bs (out ++ [10]) := bs_app _ _
        refine callG (WriteString_c true A (out ++ [10]) bst hb (by simp; omega)) [5, 6] rfl ⟨rfl, rfl, trivial⟩ (by simp [opvs, opv, nth, pvs, rnS, rnA, rnC, rnI]; exact hE) fun i1 hi1 => ?_
        ((conv => whnf); (repeat ((first | refine BoxN.own ?_ | refine VrN.norm (wrap_i64 (by omega)) ?_ | refine VrN.keep ?_ | refine DrawN.calm (by decide +kernel) ?_ | refine Nd.mk (by decide +kernel) ?_ | refine Nd.mk (by omega) ?_ | (refine Nd.mk ?_ ?_; focus ((repeat' (first | exact trivial | exact wkE_refl _ | refine And.intro ?_ ?_)); done)) | refine RdN.intro _ rfl (by rfl) ?_); (conv => whnf))))
        refine callG (BString_c true (A ++ (out ++ [10])) i1 hi1) [5, 6] rfl ⟨rfl, rfl, trivial⟩ rfl fun _ _ => ?_
        ((conv => whnf); (repeat ((first | refine BoxN.own ?_ | refine VrN.norm (wrap_i64 (by omega)) ?_ | refine VrN.keep ?_ | refine DrawN.calm (by decide +kernel) ?_ | refine Nd.mk (by decide +kernel) ?_ | refine Nd.mk (by omega) ?_ | (refine Nd.mk ?_ ?_; focus ((repeat' (first | exact trivial | exact wkE_refl _ | refine And.intro ?_ ?_)); done)) | refine RdN.intro _ rfl (by rfl) ?_); (conv => whnf))))
end Go.Proofs.YtfcjgklghgpddaaGreatDoor

/-
  Contracts: reads; the law ErbParts.
-/
namespace Go.Proofs.YtfcjgklghgpddaaGreatDoor
open Go.AX Go.RowKit Go.Erb
set_option maxRecDepth 20000

theorem reads_c (s out : List UInt8) (lines : Bool) (hs : s.length ≤ 200000000000000) (ho : out.length ≤ 1000000000) : ∀ H, (∀ w, Facts H w → MaxF w) → SpecH Tryz.prog 13 (pvs [.string (bs s), .string (bs out), .bool lines]) H (Ret (.bool true) H) := by
  refine factC hm Tryz.func13 (by kernel_rfl) rfl rfl ?_
  have hlen := parts_len s lines
  have hP := Parts_c s lines hs
  have hR := RParts_c s lines hs
  generalize parts s lines = p at hP hR hlen
  have hPl := Plain_c s lines hs
  have hRl := RPlain_c s lines hs
  generalize plainP s lines = q at hPl hRl
  obtain ⟨q1, q2⟩ := q
  ((conv => whnf); (repeat ((first | refine BoxN.own ?_ | refine VrN.norm (wrap_i64 (by omega)) ?_ | refine VrN.keep ?_ | refine DrawN.calm (by decide +kernel) ?_ | refine Nd.mk (by decide +kernel) ?_ | refine Nd.mk (by omega) ?_ | (refine Nd.mk ?_ ?_; focus ((repeat' (first | exact trivial | exact wkE_refl _ | refine And.intro ?_ ?_)); done)) | refine RdN.intro _ rfl (by rfl) ?_); (conv => whnf))))
  refine SpecF.call hP (fun w hw => hw.1) fun v G h1 => ?_
  obtain ⟨ob, cap, rfl, hn, hG⟩ := h1
  ((conv => whnf); (repeat ((first | refine BoxN.own ?_ | refine VrN.norm (wrap_i64 (by omega)) ?_ | refine VrN.keep ?_ | refine DrawN.calm (by decide +kernel) ?_ | refine Nd.mk (by decide +kernel) ?_ | refine Nd.mk (by omega) ?_ | (refine Nd.mk ?_ ?_; focus ((repeat' (first | exact trivial | exact wkE_refl _ | refine And.intro ?_ ?_)); done)) | refine RdN.intro _ rfl (by rfl) ?_); (conv => whnf))))
  refine SpecF.call hR (fun w hw => hw.1) fun v G' h1 => ?_
  obtain ⟨ob', cap', rfl, hn', hG'⟩ := h1
  ((conv => whnf); (repeat ((first | refine BoxN.own ?_ | refine VrN.norm (wrap_i64 (by omega)) ?_ | refine VrN.keep ?_ | refine DrawN.calm (by decide +kernel) ?_ | refine Nd.mk (by decide +kernel) ?_ | refine Nd.mk (by omega) ?_ | (refine Nd.mk ?_ ?_; focus ((repeat' (first | exact trivial | exact wkE_refl _ | refine And.intro ?_ ?_)); done)) | refine RdN.intro _ rfl (by rfl) ?_); (conv => whnf))))
  refine call1 (Program_c s out lines hs ho _ fun w hw => hw.1) ?_
  ((conv => whnf); (repeat ((first | refine BoxN.own ?_ | refine VrN.norm (wrap_i64 (by omega)) ?_ | refine VrN.keep ?_ | refine DrawN.calm (by decide +kernel) ?_ | refine Nd.mk (by decide +kernel) ?_ | refine Nd.mk (by omega) ?_ | (refine Nd.mk ?_ ?_; focus ((repeat' (first | exact trivial | exact wkE_refl _ | refine And.intro ?_ ?_)); done)) | refine RdN.intro _ rfl (by rfl) ?_); (conv => whnf))))
  refine call1 (RProgram_c s out lines hs ho _ fun w hw => hw.1) ?_
  ((conv => whnf); (repeat ((first | refine BoxN.own ?_ | refine VrN.norm (wrap_i64 (by omega)) ?_ | refine VrN.keep ?_ | refine DrawN.calm (by decide +kernel) ?_ | refine Nd.mk (by decide +kernel) ?_ | refine Nd.mk (by omega) ?_ | (refine Nd.mk ?_ ?_; focus ((repeat' (first | exact trivial | exact wkE_refl _ | refine And.intro ?_ ?_)); done)) | refine RdN.intro _ rfl (by rfl) ?_); (conv => whnf))))
  refine call1 (hPl _ fun w hw => hw.1) ?_
  ((conv => whnf); (repeat ((first | refine BoxN.own ?_ | refine VrN.norm (wrap_i64 (by omega)) ?_ | refine VrN.keep ?_ | refine DrawN.calm (by decide +kernel) ?_ | refine Nd.mk (by decide +kernel) ?_ | refine Nd.mk (by omega) ?_ | (refine Nd.mk ?_ ?_; focus ((repeat' (first | exact trivial | exact wkE_refl _ | refine And.intro ?_ ?_)); done)) | refine RdN.intro _ rfl (by rfl) ?_); (conv => whnf))))
  refine call1 (hRl _ fun w hw => hw.1) ?_
  ((conv => whnf); (repeat ((first | refine BoxN.own ?_ | refine VrN.norm (wrap_i64 (by omega)) ?_ | refine VrN.keep ?_ | refine DrawN.calm (by decide +kernel) ?_ | refine Nd.mk (by decide +kernel) ?_ | refine Nd.mk (by omega) ?_ | (refine Nd.mk ?_ ?_; focus ((repeat' (first | exact trivial | exact wkE_refl _ | refine And.intro ?_ ?_)); done)) | refine RdN.intro _ rfl (by rfl) ?_); (conv => whnf))))
  refine call1 (same_c (at0 ob) cap p.1 (at0 ob') cap' p.1 true (by omega) (fun h => hn (by cases ob <;> simp_all [at0])) (fun h => hn' (by cases ob' <;> simp_all [at0])) _ fun w hw => ⟨hG w hw.2.1, hG' w hw.2.2.1⟩) ?_
  rw [sameB_refl]
  ((conv => whnf); (repeat ((first | refine BoxN.own ?_ | refine VrN.norm (wrap_i64 (by omega)) ?_ | refine VrN.keep ?_ | refine DrawN.calm (by decide +kernel) ?_ | refine Nd.mk (by decide +kernel) ?_ | refine Nd.mk (by omega) ?_ | (refine Nd.mk ?_ ?_; focus ((repeat' (first | exact trivial | exact wkE_refl _ | refine And.intro ?_ ?_)); done)) | refine RdN.intro _ rfl (by rfl) ?_); (conv => whnf))))
  refine brdT (by simp) ?_
  ((conv => whnf); (repeat ((first | refine BoxN.own ?_ | refine VrN.norm (wrap_i64 (by omega)) ?_ | refine VrN.keep ?_ | refine DrawN.calm (by decide +kernel) ?_ | refine Nd.mk (by decide +kernel) ?_ | refine Nd.mk (by omega) ?_ | (refine Nd.mk ?_ ?_; focus ((repeat' (first | exact trivial | exact wkE_refl _ | refine And.intro ?_ ?_)); done)) | refine RdN.intro _ rfl (by rfl) ?_); (conv => whnf))))
  refine brdT (by simp) ?_
  ((conv => whnf); (repeat ((first | refine BoxN.own ?_ | refine VrN.norm (wrap_i64 (by omega)) ?_ | refine VrN.keep ?_ | refine DrawN.calm (by decide +kernel) ?_ | refine Nd.mk (by decide +kernel) ?_ | refine Nd.mk (by omega) ?_ | (refine Nd.mk ?_ ?_; focus ((repeat' (first | exact trivial | exact wkE_refl _ | refine And.intro ?_ ?_)); done)) | refine RdN.intro _ rfl (by rfl) ?_); (conv => whnf))))
  refine brdT (by simp) ?_
  ((conv => whnf); (repeat ((first | refine BoxN.own ?_ | refine VrN.norm (wrap_i64 (by omega)) ?_ | refine VrN.keep ?_ | refine DrawN.calm (by decide +kernel) ?_ | refine Nd.mk (by decide +kernel) ?_ | refine Nd.mk (by omega) ?_ | (refine Nd.mk ?_ ?_; focus ((repeat' (first | exact trivial | exact wkE_refl _ | refine And.intro ?_ ?_)); done)) | refine RdN.intro _ rfl (by rfl) ?_); (conv => whnf))))
  refine brdT (by simp) ?_
  ((conv => whnf); (repeat ((first | refine BoxN.own ?_ | refine VrN.norm (wrap_i64 (by omega)) ?_ | refine VrN.keep ?_ | refine DrawN.calm (by decide +kernel) ?_ | refine Nd.mk (by decide +kernel) ?_ | refine Nd.mk (by omega) ?_ | (refine Nd.mk ?_ ?_; focus ((repeat' (first | exact trivial | exact wkE_refl _ | refine And.intro ?_ ?_)); done)) | refine RdN.intro _ rfl (by rfl) ?_); (conv => whnf))))
  refine brdT (by simp) ?_
  ((conv => whnf); (repeat ((first | refine BoxN.own ?_ | refine VrN.norm (wrap_i64 (by omega)) ?_ | refine VrN.keep ?_ | refine DrawN.calm (by decide +kernel) ?_ | refine Nd.mk (by decide +kernel) ?_ | refine Nd.mk (by omega) ?_ | (refine Nd.mk ?_ ?_; focus ((repeat' (first | exact trivial | exact wkE_refl _ | refine And.intro ?_ ?_)); done)) | refine RdN.intro _ rfl (by rfl) ?_); (conv => whnf))))

  cases q1 <;> (((conv => whnf); (repeat ((first | refine BoxN.own ?_ | refine VrN.norm (wrap_i64 (by omega)) ?_ | refine VrN.keep ?_ | refine DrawN.calm (by decide +kernel) ?_ | refine Nd.mk (by decide +kernel) ?_ | refine Nd.mk (by omega) ?_ | (refine Nd.mk ?_ ?_; focus ((repeat' (first | exact trivial | exact wkE_refl _ | refine And.intro ?_ ?_)); done)) | refine RdN.intro _ rfl (by rfl) ?_); (conv => whnf)))); exact out_bool (by simp))
theorem ErbParts_c (s out : List UInt8) (lines : Bool) (hs : s.length ≤ 200000000000000) (ho : out.length ≤ 200000000000000) : ∀ H, (∀ w, Facts H w → MaxF w) → SpecH Tryz.prog 5 (pvs [.string (bs s), .string (bs out), .bool lines]) H (Ret (.bool true) H) := by
  refine factC hm Tryz.func5 (by kernel_rfl) rfl rfl ?_
  have hz := bs_size s
  have hzo := bs_size out
  ((conv => whnf); (repeat ((first | refine BoxN.own ?_ | refine VrN.norm (wrap_i64 (by omega)) ?_ | refine VrN.keep ?_ | refine DrawN.calm (by decide +kernel) ?_ | refine Nd.mk (by decide +kernel) ?_ | refine Nd.mk (by omega) ?_ | (refine Nd.mk ?_ ?_; focus ((repeat' (first | exact trivial | exact wkE_refl _ | refine And.intro ?_ ?_)); done)) | refine RdN.intro _ rfl (by rfl) ?_); (conv => whnf))))
  rw [hz]
  refine brd_dec (fun h1 => ?_) (fun h1 => ?_)
  · ((conv => whnf); (repeat ((first | refine BoxN.own ?_ | refine VrN.norm (wrap_i64 (by omega)) ?_ | refine VrN.keep ?_ | refine DrawN.calm (by decide +kernel) ?_ | refine Nd.mk (by decide +kernel) ?_ | refine Nd.mk (by omega) ?_ | (refine Nd.mk ?_ ?_; focus ((repeat' (first | exact trivial | exact wkE_refl _ | refine And.intro ?_ ?_)); done)) | refine RdN.intro _ rfl (by rfl) ?_); (conv => whnf))))
    rw [hz]
    refine brd_dec (fun h2 => ?_) (fun h2 => ?_)
    · ((conv => whnf); (repeat ((first | refine BoxN.own ?_ | refine VrN.norm (wrap_i64 (by omega)) ?_ | refine VrN.keep ?_ | refine DrawN.calm (by decide +kernel) ?_ | refine Nd.mk (by decide +kernel) ?_ | refine Nd.mk (by omega) ?_ | (refine Nd.mk ?_ ?_; focus ((repeat' (first | exact trivial | exact wkE_refl _ | refine And.intro ?_ ?_)); done)) | refine RdN.intro _ rfl (by rfl) ?_); (conv => whnf))))
      refine call1 (sane_c _ fun w hw => hw.1) ?_
      ((conv => whnf); (repeat ((first | refine BoxN.own ?_ | refine VrN.norm (wrap_i64 (by omega)) ?_ | refine VrN.keep ?_ | refine DrawN.calm (by decide +kernel) ?_ | refine Nd.mk (by decide +kernel) ?_ | refine Nd.mk (by omega) ?_ | (refine Nd.mk ?_ ?_; focus ((repeat' (first | exact trivial | exact wkE_refl _ | refine And.intro ?_ ?_)); done)) | refine RdN.intro _ rfl (by rfl) ?_); (conv => whnf))))
    · ((conv => whnf); (repeat ((first | refine BoxN.own ?_ | refine VrN.norm (wrap_i64 (by omega)) ?_ | refine VrN.keep ?_ | refine DrawN.calm (by decide +kernel) ?_ | refine Nd.mk (by decide +kernel) ?_ | refine Nd.mk (by omega) ?_ | (refine Nd.mk ?_ ?_; focus ((repeat' (first | exact trivial | exact wkE_refl _ | refine And.intro ?_ ?_)); done)) | refine RdN.intro _ rfl (by rfl) ?_); (conv => whnf))))
      rw [hzo]
      refine brd_dec (fun h3 => ?_) (fun h3 => ?_)
      · ((conv => whnf); (repeat ((first | refine BoxN.own ?_ | refine VrN.norm (wrap_i64 (by omega)) ?_ | refine VrN.keep ?_ | refine DrawN.calm (by decide +kernel) ?_ | refine Nd.mk (by decide +kernel) ?_ | refine Nd.mk (by omega) ?_ | (refine Nd.mk ?_ ?_; focus ((repeat' (first | exact trivial | exact wkE_refl _ | refine And.intro ?_ ?_)); done)) | refine RdN.intro _ rfl (by rfl) ?_); (conv => whnf))))
        refine call1 (sane_c _ fun w hw => hw.1) ?_
        ((conv => whnf); (repeat ((first | refine BoxN.own ?_ | refine VrN.norm (wrap_i64 (by omega)) ?_ | refine VrN.keep ?_ | refine DrawN.calm (by decide +kernel) ?_ | refine Nd.mk (by decide +kernel) ?_ | refine Nd.mk (by omega) ?_ | (refine Nd.mk ?_ ?_; focus ((repeat' (first | exact trivial | exact wkE_refl _ | refine And.intro ?_ ?_)); done)) | refine RdN.intro _ rfl (by rfl) ?_); (conv => whnf))))
      ·
        ((conv => whnf); (repeat ((first | refine BoxN.own ?_ | refine VrN.norm (wrap_i64 (by omega)) ?_ | refine VrN.keep ?_ | refine DrawN.calm (by decide +kernel) ?_ | refine Nd.mk (by decide +kernel) ?_ | refine Nd.mk (by omega) ?_ | (refine Nd.mk ?_ ?_; focus ((repeat' (first | exact trivial | exact wkE_refl _ | refine And.intro ?_ ?_)); done)) | refine RdN.intro _ rfl (by rfl) ?_); (conv => whnf))))
        refine call1 (reads_c s out lines (by omega) (by omega) _ fun w hw => hw.1) ?_
        ((conv => whnf); (repeat ((first | refine BoxN.own ?_ | refine VrN.norm (wrap_i64 (by omega)) ?_ | refine VrN.keep ?_ | refine DrawN.calm (by decide +kernel) ?_ | refine Nd.mk (by decide +kernel) ?_ | refine Nd.mk (by omega) ?_ | (refine Nd.mk ?_ ?_; focus ((repeat' (first | exact trivial | exact wkE_refl _ | refine And.intro ?_ ?_)); done)) | refine RdN.intro _ rfl (by rfl) ?_); (conv => whnf))))
        refine call1 (reads_c s [111, 117, 116] (!lines) (by omega) (by decide) _ fun w hw => hw.1) ?_
        ((conv => whnf); (repeat ((first | refine BoxN.own ?_ | refine VrN.norm (wrap_i64 (by omega)) ?_ | refine VrN.keep ?_ | refine DrawN.calm (by decide +kernel) ?_ | refine Nd.mk (by decide +kernel) ?_ | refine Nd.mk (by omega) ?_ | (refine Nd.mk ?_ ?_; focus ((repeat' (first | exact trivial | exact wkE_refl _ | refine And.intro ?_ ?_)); done)) | refine RdN.intro _ rfl (by rfl) ?_); (conv => whnf))))
        refine call1 (sane_c _ fun w hw => hw.1) ?_
        ((conv => whnf); (repeat ((first | refine BoxN.own ?_ | refine VrN.norm (wrap_i64 (by omega)) ?_ | refine VrN.keep ?_ | refine DrawN.calm (by decide +kernel) ?_ | refine Nd.mk (by decide +kernel) ?_ | refine Nd.mk (by omega) ?_ | (refine Nd.mk ?_ ?_; focus ((repeat' (first | exact trivial | exact wkE_refl _ | refine And.intro ?_ ?_)); done)) | refine RdN.intro _ rfl (by rfl) ?_); (conv => whnf))))
  · ((conv => whnf); (repeat ((first | refine BoxN.own ?_ | refine VrN.norm (wrap_i64 (by omega)) ?_ | refine VrN.keep ?_ | refine DrawN.calm (by decide +kernel) ?_ | refine Nd.mk (by decide +kernel) ?_ | refine Nd.mk (by omega) ?_ | (refine Nd.mk ?_ ?_; focus ((repeat' (first | exact trivial | exact wkE_refl _ | refine And.intro ?_ ?_)); done)) | refine RdN.intro _ rfl (by rfl) ?_); (conv => whnf))))
    rw [hzo]
    refine brd_dec (fun h3 => ?_) (fun h3 => ?_)
    · ((conv => whnf); (repeat ((first | refine BoxN.own ?_ | refine VrN.norm (wrap_i64 (by omega)) ?_ | refine VrN.keep ?_ | refine DrawN.calm (by decide +kernel) ?_ | refine Nd.mk (by decide +kernel) ?_ | refine Nd.mk (by omega) ?_ | (refine Nd.mk ?_ ?_; focus ((repeat' (first | exact trivial | exact wkE_refl _ | refine And.intro ?_ ?_)); done)) | refine RdN.intro _ rfl (by rfl) ?_); (conv => whnf))))
      refine call1 (sane_c _ fun w hw => hw.1) ?_
      ((conv => whnf); (repeat ((first | refine BoxN.own ?_ | refine VrN.norm (wrap_i64 (by omega)) ?_ | refine VrN.keep ?_ | refine DrawN.calm (by decide +kernel) ?_ | refine Nd.mk (by decide +kernel) ?_ | refine Nd.mk (by omega) ?_ | (refine Nd.mk ?_ ?_; focus ((repeat' (first | exact trivial | exact wkE_refl _ | refine And.intro ?_ ?_)); done)) | refine RdN.intro _ rfl (by rfl) ?_); (conv => whnf))))
    ·
      ((conv => whnf); (repeat ((first | refine BoxN.own ?_ | refine VrN.norm (wrap_i64 (by omega)) ?_ | refine VrN.keep ?_ | refine DrawN.calm (by decide +kernel) ?_ | refine Nd.mk (by decide +kernel) ?_ | refine Nd.mk (by omega) ?_ | (refine Nd.mk ?_ ?_; focus ((repeat' (first | exact trivial | exact wkE_refl _ | refine And.intro ?_ ?_)); done)) | refine RdN.intro _ rfl (by rfl) ?_); (conv => whnf))))
      refine call1 (reads_c s out lines (by omega) (by omega) _ fun w hw => hw.1) ?_
      ((conv => whnf); (repeat ((first | refine BoxN.own ?_ | refine VrN.norm (wrap_i64 (by omega)) ?_ | refine VrN.keep ?_ | refine DrawN.calm (by decide +kernel) ?_ | refine Nd.mk (by decide +kernel) ?_ | refine Nd.mk (by omega) ?_ | (refine Nd.mk ?_ ?_; focus ((repeat' (first | exact trivial | exact wkE_refl _ | refine And.intro ?_ ?_)); done)) | refine RdN.intro _ rfl (by rfl) ?_); (conv => whnf))))
      refine call1 (reads_c s [111, 117, 116] (!lines) (by omega) (by decide) _ fun w hw => hw.1) ?_
      ((conv => whnf); (repeat ((first | refine BoxN.own ?_ | refine VrN.norm (wrap_i64 (by omega)) ?_ | refine VrN.keep ?_ | refine DrawN.calm (by decide +kernel) ?_ | refine Nd.mk (by decide +kernel) ?_ | refine Nd.mk (by omega) ?_ | (refine Nd.mk ?_ ?_; focus ((repeat' (first | exact trivial | exact wkE_refl _ | refine And.intro ?_ ?_)); done)) | refine RdN.intro _ rfl (by rfl) ?_); (conv => whnf))))
      refine call1 (sane_c _ fun w hw => hw.1) ?_
      ((conv => whnf); (repeat ((first | refine BoxN.own ?_ | refine VrN.norm (wrap_i64 (by omega)) ?_ | refine VrN.keep ?_ | refine DrawN.calm (by decide +kernel) ?_ | refine Nd.mk (by decide +kernel) ?_ | refine Nd.mk (by omega) ?_ | (refine Nd.mk ?_ ?_; focus ((repeat' (first | exact trivial | exact wkE_refl _ | refine And.intro ?_ ?_)); done)) | refine RdN.intro _ rfl (by rfl) ?_); (conv => whnf))))
end Go.Proofs.YtfcjgklghgpddaaGreatDoor

/-
  ErbPartsCardSaid is proved: of every two strings and a flag ErbParts returns true and leaves its arguments as they were; the listed tables are tied to the program's text.
-/
namespace Go.Proofs.YtfcjgklghgpddaaGreatDoor
open Go.ChangeShapes Go.WideShapes Go.ChangeAt Go.RowKit Go.AX
set_option maxRecDepth 100000

/-- What the rows list. -/
def laid3 : List (String × DataW Unit) := [("unicode/utf8.acceptRanges", Rows.laid_unicode_utf8_acceptRanges), ("unicode/utf8.first", Rows.laid_unicode_utf8_first)]
theorem door_met (os : Os) (args : Array Value) : laidMetH Tryz.prog laid3 ((World.laidAll Tryz.prog os laid3).forCall (fun _ _ => 0) ⟨#[], args, []⟩).memory := by
  rw [MakeChecks.laidMetH_plain _ _ _ (by kernel_rfl)]; exact laidMet_laidAll _ (by kernel_rfl) (by kernel_rfl)
/-- What the entries of every call know. -/
theorem known_max {W : World} (h : W.ShapedOpen Tryz.prog) : ∀ e ∈ [Ent.fact MaxF], ∃ F, e = .fact F ∧ Imm (fun b => b < W.heap.size) W F := fun _ he => ⟨_, List.mem_singleton.1 he, max_imm (max_of h)⟩

namespace ErbParts
theorem walk {H : Type} {enc : TypeId × Value → H} (W : World) (base : Nat) (args : Array Value) (ds : List (DataW H)) (p : List MemPlace) (k : Known enc Tryz.prog Tryz.f5 W base args ds p) (_hL : laidMetH Tryz.prog laid3 W) : Walk Tryz.prog 5 args W := by
  obtain ⟨u, v, x, rfl⟩ := arr3 (trodAll_len k.trod).2
  obtain ⟨b, rfl, hb⟩ := k.low.string 0 rfl rfl Tryz.underlying9
  obtain ⟨c, rfl, hc⟩ := k.low.string 1 rfl rfl Tryz.underlying9
  obtain ⟨l, rfl⟩ := okWide_bool (P := Tryz.prog) (by kernel_rfl) (k.val 2 _ x rfl rfl)
  rw [← bs_of b, ← bs_of c]
  exact walkH [.fact MaxF] (known_max k.shaped) (ErbParts_c b.data.toList c.data.toList l (by simpa using hb) (by simpa using hc) _ fun w hw => hw.1)

theorem lifted (os : Os) (started : os.Started) (H : Type) (enc : TypeId × Value → H) :
    ReturnsInHanded {} Tryz.checked os 5 .any (fun w args => (Rows.erbPartsSpec.pre enc Tryz.prog Tryz.f5 [] false w args ∧ laidMetH Tryz.prog laid3 w) ∧ sizedMet enc Tryz.prog Tryz.f5 (OpenSpec.ofChange Rows.erbPartsSpec) false w args) (Rows.erbPartsSpec.post enc Tryz.prog Tryz.f5 false true false false) := by
  refine liftS (C := Tryz.checked) own started (by kernel_rfl) Tryz.func5
    (ChangeSpec.witness_shaped (enc := enc) (C := Tryz.checked) (os := os) (X := fun w _ => laidMetH Tryz.prog laid3 w) false (World.laidAll Tryz.prog os laid3) #[.string "".toUTF8, .string "".toUTF8, .bool false] 8 (World.laidAll_os _ _ _) (World.shaped_of_ZipB (by kernel_rfl) (by kernel_rfl)) (by kernel_rfl) (by kernel_rfl) (by kernel_rfl) (door_met os _))
    laidOut rfl (t := _) rfl (by kernel_rfl) (by kernel_rfl) ?_ walk
  intro ds hd
  match ds, hd with
  | [d0, d1, d2], _ => rfl

theorem over : Rows.erbPartsRow.holds Tryz.pinned (OpenSpec.ofChange Rows.erbPartsSpec) :=
  OpenClaim.holds_of_wide 5 Tryz.f5 rfl rfl rfl rfl rfl rfl rfl ⟨rfl, rfl, rfl, rfl, rfl⟩ rfl rfl rfl rfl rfl (by kernel_rfl) Tryz.func5 (by kernel_rfl)
    (of_decide_eq_true (by kernel_rfl)) (by unfold Func.isWrapper; first | (rw [if_pos (by decide +kernel)]; kernel_rfl) | (rw [if_neg (by decide +kernel)]; exact ⟨rfl, rfl⟩))
    (fun os started H enc _ => lifted os started H enc)

theorem proved : Rows.ErbPartsCardSaid :=
  Claim7.holds_tied_plain_at .later [] [.data, .pinned] true (true, "c52e10096dbe4c7604fe371d64a221f2aeb5179cd959ea0d1bd5915f8a72ab80") true
    over (fun _ h => by cases h) (by kernel_rfl) (fun _ h => by cases h) erbParts_row_tie rfl ⟨rfl, rfl⟩ (by kernel_rfl) rfl
    (fun f fn hf hfn => by
      obtain rfl : f = 5 := Option.some.inj ((show Tryz.prog.funcNamed "cabochon/cabochonlaw10.ErbParts" = some 5 by kernel_rfl).symm.trans hf) |>.symm
      obtain rfl : fn = Tryz.f5 := (Option.some.inj (Tryz.func5.symm.trans hfn)).symm
      exact ⟨by kernel_rfl, fun j t ht => by
        have hm : t ∈ Tryz.f5.params.toList := by simpa using Array.mem_of_getElem? ht
        have hall : (Tryz.f5.params.toList.all fun u => !Tryz.prog.wantsStandIn u) = true := by kernel_rfl
        exact (show Tryz.prog.wantsStandIn t = false by simpa using List.all_eq_true.1 hall t hm)⟩)
    (by kernel_rfl)
#print axioms proved
end ErbParts
end Go.Proofs.YtfcjgklghgpddaaGreatDoor
