/-
  Lemmas (C17 C18 C19 C20 C21 C22 C23 C24 R1 P15 D1 D2 D3).
-/
import Derived.Shelf.Unicode.DecodeAny
import Derived.Lay
import Derived.Lib.LaidU8
import Derived.PinnedBridge
import Derived.Test.YtjkchonpnocffaaDoorMh6
/-
  Contract: all directives are written (program).
-/
namespace Go.Proofs.YtjkchonpnocffaaDoor
open Go.AX Go.RowKit Go.Pack
set_option maxRecDepth 20000

/-- What run gives: an error, or a packer in memory. -/
def RunR (ia : Option Addr) (items : List Pack.Item) (icap : Nat) (r : Except Int (List UInt8 × Nat)) (v : Value) (G : World → Prop) : Prop := match r with
  | .error e => v = .tuple #[.pointer none, .int .i64 e]
  | .ok (l, u) => ∃ pb ob cap, v = .tuple #[.pointer (some ⟨pb, 0, none⟩), .int .i64 0] ∧ (ob = none → l = []) ∧ l.length ≤ cap ∧
    ∀ w, G w → SlAt (some ⟨pb, 0, none⟩) 3 [.slice (at0 ob) l.length cap, .slice ia items.length icap, .int .i64 (u : Int)] w ∧ SlAt (at0 ob) l.length (u8s l) w
theorem timesS_succ {d : Dir} {items : List Pack.Item} (k : Nat) (l : List UInt8) (used : Nat) : timesS d items (k + 1) l used = match oneS d items l used with | .error e => .error e | .ok (o, u) => timesS d items k o u := rfl
theorem run_c (form : List UInt8) (ia : Option Addr) (items : List Pack.Item) (icap : Nat) (hs : form.length ≤ 100000)
    (hia : items ≠ [] → ia.isSome = true) (hl : items.length ≤ 100000) (hi : ∀ x ∈ items, x.text.length ≤ 200000 ∧ -9223372036854775808 ≤ x.int ∧ x.int < 9223372036854775808) :
    SpecF Tryd.prog 37 [.string (bs form), .slice ia items.length icap] (ItemsF ia items) (RunR ia items icap (packS form items)) := by
  refine specF hm Tryd.func37 (by kernel_rfl) rfl rfl ?_
  ((conv => whnf); (repeat ((first | refine BoxN.own ?_ | refine RwN.own ?_ | refine VrN.norm (wrap_i64 (by omega)) ?_ | refine VrN.keep ?_ | refine DrawN.calm (by decide +kernel) ?_ | refine Nd.mk (by decide +kernel) ?_ | refine Nd.mk (by omega) ?_ | (refine Nd.mk ?_ ?_; focus ((repeat' (first | exact trivial | exact wkE_refl _ | refine And.intro ?_ ?_)); done)) | refine RdN.intro _ rfl (by rfl) ?_); (conv => whnf))))
  refine SpecF.call (read_c form hs) (fun w _ => trivial) fun v G hR => ?_
  unfold packS
  cases hf : forms form with
  | none =>
    rw [hf] at hR
    obtain ⟨y, n, cap, rfl⟩ := hR
    ((conv => whnf); (repeat ((first | refine BoxN.own ?_ | refine RwN.own ?_ | refine VrN.norm (wrap_i64 (by omega)) ?_ | refine VrN.keep ?_ | refine DrawN.calm (by decide +kernel) ?_ | refine Nd.mk (by decide +kernel) ?_ | refine Nd.mk (by omega) ?_ | (refine Nd.mk ?_ ?_; focus ((repeat' (first | exact trivial | exact wkE_refl _ | refine And.intro ?_ ?_)); done)) | refine RdN.intro _ rfl (by rfl) ?_); (conv => whnf))))
    exact fin_v rfl
  | some ds =>
    rw [hf] at hR
    obtain ⟨db, dcap, rfl, hdb, hG⟩ := hR
    obtain ⟨h50, hok⟩ := forms_ok hf
    ((conv => whnf); (repeat ((first | refine RwN.own ?_ | refine VrN.norm (wrap_i64 (by omega)) ?_ | refine VrN.keep ?_ | refine DrawN.calm (by decide +kernel) ?_ | refine Nd.mk (by decide +kernel) ?_ | refine Nd.mk (by omega) ?_ | (refine Nd.mk ?_ ?_; focus ((repeat' (first | exact trivial | exact wkE_refl _ | refine And.intro ?_ ?_)); done)) | refine RdN.intro _ rfl (by rfl) ?_); (conv => whnf))))
    refine BoxN.known [.slice none 0 0, .slice ia items.length icap, .int .i64 0] rfl fun pb => ?_
    ((conv => whnf); (repeat ((first | refine BoxN.own ?_ | refine RwN.own ?_ | refine VrN.norm (wrap_i64 (by omega)) ?_ | refine VrN.keep ?_ | refine DrawN.calm (by decide +kernel) ?_ | refine Nd.mk (by decide +kernel) ?_ | refine Nd.mk (by omega) ?_ | (refine Nd.mk ?_ ?_; focus ((repeat' (first | exact trivial | exact wkE_refl _ | refine And.intro ?_ ?_)); done)) | refine RdN.intro _ rfl (by rfl) ?_); (conv => whnf))))
    refine LoopN.intro (Nat × List UInt8 × Option Nat × Nat × Nat) (fun ⟨i, l, ob, cap, used⟩ => i ≤ ds.length ∧ runS items (ds.drop i) l used = runS items ds [] 0 ∧ ((ob = none → l = [] ∧ cap = 0) ∧ l.length ≤ cap) ∧ l.length ≤ 100000 ∧ used ≤ items.length)
      (fun ⟨i, _, _, _, _⟩ => mkS Tryd.f37.ntmps 0 [(1, .c (.v (.slice ia items.length icap))), (8, .c (.v (.pointer (some ⟨pb, 0, none⟩)))), (23, .c (.v (.slice (at0 db) ds.length dcap))), (24, .c (.v (.int .i64 (ds.length : Int)))), (25, .c (.v (.int .i64 (i : Int))))])
      (fun ⟨_, l, ob, cap, used⟩ => [.fact (ItemsF ia items), .fact G, pkE pb ob l.length cap ia items.length icap used, outE l ob cap]) (fun ⟨i, _, _, _, _⟩ => ds.length - i) [.app 0 0 [] none 0 0] rfl
      (fun _ => rfl) (fun _ => rfl) (fun _ _ => okHB_eq rfl) ⟨(0, [], none, 0, 0), ⟨Nat.zero_le _, rfl, ⟨fun _ => ⟨rfl, rfl⟩, Nat.le_refl _⟩, Nat.zero_le _, Nat.zero_le _⟩, ?_, ?_⟩ ?_
    · (repeat' (first | exact trivial | refine And.intro (by with_reducible rfl) ?_ | (with_reducible exact wkC_refl _) | (with_reducible exact wkCs_refl _) | refine And.intro ?_ ?_))
      all_goals rfl
    · exact ⟨wkE_refl _, wkE_refl _, wkE_refl _, wkE_nil, wkH_nil _⟩
    rintro ⟨i, l, ob, cap, used⟩ ⟨hid, hrun, hob, hll, hu⟩
    ((conv => whnf); (repeat ((first | refine BoxN.own ?_ | refine RwN.own ?_ | refine VrN.norm (wrap_i64 (by omega)) ?_ | refine VrN.keep ?_ | refine DrawN.calm (by decide +kernel) ?_ | refine Nd.mk (by decide +kernel) ?_ | refine Nd.mk (by omega) ?_ | (refine Nd.mk ?_ ?_; focus ((repeat' (first | exact trivial | exact wkE_refl _ | refine And.intro ?_ ?_)); done)) | refine RdN.intro _ rfl (by rfl) ?_); (conv => whnf))))
    refine brd_dec (fun h1 => ?_) (fun h1 => ?_)
    · obtain ⟨d, hd⟩ : ∃ d, ds[i]? = some d := ⟨_, List.getElem?_eq_getElem (by omega)⟩
      have hdok := hok d (List.mem_of_getElem? hd)
      obtain ⟨db, rfl⟩ : ∃ g, db = some g := by
        cases db with
        | none => rw [hdb rfl] at hd; cases hd
        | some g => exact ⟨g, rfl⟩
      have hdr : runS items (ds.drop i) l used = match timesS d items (times d (items.length - used)) l used with | .error e => .error e | .ok (o, u) => runS items (ds.drop (i + 1)) o u := by
        rw [List.drop_eq_getElem_cons (by omega), (List.getElem?_eq_some_iff.1 hd).2]
        rfl
      rw [hdr] at hrun
      ((conv => whnf); (repeat ((first | refine BoxN.own ?_ | refine RwN.own ?_ | refine VrN.norm (wrap_i64 (by omega)) ?_ | refine VrN.keep ?_ | refine DrawN.calm (by decide +kernel) ?_ | refine Nd.mk (by decide +kernel) ?_ | refine Nd.mk (by omega) ?_ | (refine Nd.mk ?_ ?_; focus ((repeat' (first | exact trivial | exact wkE_refl _ | refine And.intro ?_ ?_)); done)) | refine RdN.intro _ rfl (by rfl) ?_); (conv => whnf))))
      refine Nd.mk ⟨rfl, by omega, by omega⟩ ?_
      ((conv => whnf); (repeat ((first | refine BoxN.own ?_ | refine RwN.own ?_ | refine VrN.norm (wrap_i64 (by omega)) ?_ | refine VrN.keep ?_ | refine DrawN.calm (by decide +kernel) ?_ | refine Nd.mk (by decide +kernel) ?_ | refine Nd.mk (by omega) ?_ | (refine Nd.mk ?_ ?_; focus ((repeat' (first | exact trivial | exact wkE_refl _ | refine And.intro ?_ ?_)); done)) | refine RdN.intro _ rfl (by rfl) ?_); (conv => whnf))))
      refine LdN.agg (dirC d) rfl (fun w hw => hG w hw.2.1) rfl (fun j hj => by
        rw [Int.toNat_natCast]
        exact dirsC_get ds i j hj hd) ?_
      ((conv => whnf); (repeat ((first | refine BoxN.own ?_ | refine RwN.own ?_ | refine VrN.norm (wrap_i64 (by omega)) ?_ | refine VrN.keep ?_ | refine DrawN.calm (by decide +kernel) ?_ | refine Nd.mk (by decide +kernel) ?_ | refine Nd.mk (by omega) ?_ | (refine Nd.mk ?_ ?_; focus ((repeat' (first | exact trivial | exact wkE_refl _ | refine And.intro ?_ ?_)); done)) | refine RdN.intro _ rfl (by rfl) ?_); (conv => whnf))))
      refine call1 (isString_c d _) ?_
      cases hstr : isStr d.letter with
      | true =>
        have hT : times d (items.length - used) = 1 := by unfold times; rw [hstr]; rfl
        -- 1: the times
        rw [hT] at hrun
        ((conv => whnf); (repeat ((first | refine BoxN.own ?_ | refine RwN.own ?_ | refine VrN.norm (wrap_i64 (by omega)) ?_ | refine VrN.keep ?_ | refine DrawN.calm (by decide +kernel) ?_ | refine Nd.mk (by decide +kernel) ?_ | refine Nd.mk (by omega) ?_ | (refine Nd.mk ?_ ?_; focus ((repeat' (first | exact trivial | exact wkE_refl _ | refine And.intro ?_ ?_)); done)) | refine RdN.intro _ rfl (by rfl) ?_); (conv => whnf))))
        refine LoopN.intro (Nat × List UInt8 × Option Nat × Nat × Nat) (fun ⟨j, l', ob', cap', used'⟩ => j ≤ 1 ∧ timesS d items (1 - j) l' used' = timesS d items (1) l used ∧ ((ob' = none → l' = [] ∧ cap' = 0) ∧ l'.length ≤ cap') ∧ l'.length ≤ 100000 ∧ used' ≤ items.length)
          (fun ⟨j, _, _, _, _⟩ => mkS Tryd.f37.ntmps 0 [(1, .c (.v (.slice ia items.length icap))), (8, .c (.v (.pointer (some ⟨pb, 0, none⟩)))), (10, .c (.lp 4 0)), (23, .c (.v (.slice (some ⟨db, 0, none⟩) ds.length dcap))), (24, .c (.v (.int .i64 (ds.length : Int)))), (25, .c (.v (.int .i64 (i : Int)))), (52, .c (.v (.int .i64 ((1 : Nat) : Int)))), (53, .c (.v (.int .i64 (j : Int))))])
          (fun ⟨_, l', ob', cap', used'⟩ => [.fact (ItemsF ia items), .fact G, pkE pb ob' l'.length cap' ia items.length icap used', outE l' ob' cap', .blk 57 [.v (.int .u8 (d.letter.toNat : Int)), .v (.bool d.big), .v (.int .i64 d.count)]]) (fun ⟨j, _, _, _, _⟩ => 1 - j) [] rfl
          (fun _ => rfl) (fun _ => rfl) (fun _ _ => okHB_eq rfl) ⟨(0, l, ob, cap, used), ⟨Nat.zero_le _, rfl, hob, hll, hu⟩, ?_, ?_⟩ ?_
        · (repeat' (first | exact trivial | refine And.intro (by with_reducible rfl) ?_ | (with_reducible exact wkC_refl _) | (with_reducible exact wkCs_refl _) | refine And.intro ?_ ?_))
          all_goals first | rfl | exact av_int (by omega) | exact av_int (by rw [wrap_i64 (by omega)]; omega)
        · exact ⟨wkE_refl _, wkE_refl _, wkE_refl _, wkE_refl _, wkE_refl _, wkH_nil _⟩
        rintro ⟨j, l', ob', cap', used'⟩ ⟨hj, hts, hob', hll', hu'⟩
        ((conv => whnf); (repeat ((first | refine BoxN.own ?_ | refine RwN.own ?_ | refine VrN.norm (wrap_i64 (by omega)) ?_ | refine VrN.keep ?_ | refine DrawN.calm (by decide +kernel) ?_ | refine Nd.mk (by decide +kernel) ?_ | refine Nd.mk (by omega) ?_ | (refine Nd.mk ?_ ?_; focus ((repeat' (first | exact trivial | exact wkE_refl _ | refine And.intro ?_ ?_)); done)) | refine RdN.intro _ rfl (by rfl) ?_); (conv => whnf))))
        refine brd_dec (fun h2 => ?_) (fun h2 => ?_)
        · have hstep := timesS_succ (d := d) (items := items) (1 - j - 1) l' used'
          rw [show 1 - j - 1 + 1 = 1 - j by omega, hts] at hstep
          rw [hstep] at hrun
          ((conv => whnf); (repeat ((first | refine BoxN.own ?_ | refine RwN.own ?_ | refine VrN.norm (wrap_i64 (by omega)) ?_ | refine VrN.keep ?_ | refine DrawN.calm (by decide +kernel) ?_ | refine Nd.mk (by decide +kernel) ?_ | refine Nd.mk (by omega) ?_ | (refine Nd.mk ?_ ?_; focus ((repeat' (first | exact trivial | exact wkE_refl _ | refine And.intro ?_ ?_)); done)) | refine RdN.intro _ rfl (by rfl) ?_); (conv => whnf))))
          refine callG (one_c pb d l' ob' cap' ia items icap used' hdok hob' hll' hia hu' hl hi) [0, 2, 3] rfl ⟨rfl, rfl, rfl, trivial⟩ rfl ?_
          rintro ⟨l2, ob2, cap2, used2, e⟩ ⟨h3, h4, h5⟩
          by_cases he : e = 0
          · have he0 : e = 0 := he
            subst he0
            simp only [if_true] at h5
            have hfit := oneS_fit hu' h5
            rw [h5] at hstep hrun
            ((conv => whnf); (repeat ((first | refine BoxN.own ?_ | refine RwN.own ?_ | refine VrN.norm (wrap_i64 (by omega)) ?_ | refine VrN.keep ?_ | refine DrawN.calm (by decide +kernel) ?_ | refine Nd.mk (by decide +kernel) ?_ | refine Nd.mk (by omega) ?_ | (refine Nd.mk ?_ ?_; focus ((repeat' (first | exact trivial | exact wkE_refl _ | refine And.intro ?_ ?_)); done)) | refine RdN.intro _ rfl (by rfl) ?_); (conv => whnf))))
            refine ⟨(j + 1, l2, ob2, cap2, used2), ⟨by omega, by rw [show 1 - (j + 1) = 1 - j - 1 by omega, hstep], ⟨h3, h4⟩, hfit.1, hfit.2⟩, by show 1 - (j + 1) < 1 - j; omega, ?_, ?_⟩
            · (repeat' (first | exact trivial | refine And.intro (by with_reducible rfl) ?_ | (with_reducible exact wkC_refl _) | (with_reducible exact wkCs_refl _) | refine And.intro ?_ ?_))
              all_goals first | rfl | exact av_int (by omega) | exact av_int (by rw [wrap_i64 (by omega)]; omega)
            · exact ⟨wkE_refl _, wkE_refl _, wkE_refl _, wkE_refl _, wkE_refl _, wkH_nil _⟩
          · have he0 : ¬ e = 0 := he
            simp only [if_neg he0] at h5
            rw [h5] at hrun
            ((conv => whnf); (repeat ((first | refine BoxN.own ?_ | refine RwN.own ?_ | refine VrN.norm (wrap_i64 (by omega)) ?_ | refine VrN.keep ?_ | refine DrawN.calm (by decide +kernel) ?_ | refine Nd.mk (by decide +kernel) ?_ | refine Nd.mk (by omega) ?_ | (refine Nd.mk ?_ ?_; focus ((repeat' (first | exact trivial | exact wkE_refl _ | refine And.intro ?_ ?_)); done)) | refine RdN.intro _ rfl (by rfl) ?_); (conv => whnf))))
            refine brd_ne (fun _ => ?_) (fun h6 => absurd h6 he0)
            ((conv => whnf); (repeat ((first | refine BoxN.own ?_ | refine RwN.own ?_ | refine VrN.norm (wrap_i64 (by omega)) ?_ | refine VrN.keep ?_ | refine DrawN.calm (by decide +kernel) ?_ | refine Nd.mk (by decide +kernel) ?_ | refine Nd.mk (by omega) ?_ | (refine Nd.mk ?_ ?_; focus ((repeat' (first | exact trivial | exact wkE_refl _ | refine And.intro ?_ ?_)); done)) | refine RdN.intro _ rfl (by rfl) ?_); (conv => whnf))))
            refine fin_v ?_
            show RunR ia items icap (runS items ds [] 0) _ _
            rw [← hrun]
            rfl
        · have hj2 : j = 1 := by omega
          have hts2 : timesS d items (1) l used = .ok (l', used') := by
            rw [← hts, hj2, Nat.sub_self]
            rfl
          rw [hts2] at hrun
          ((conv => whnf); (repeat ((first | refine BoxN.own ?_ | refine RwN.own ?_ | refine VrN.norm (wrap_i64 (by omega)) ?_ | refine VrN.keep ?_ | refine DrawN.calm (by decide +kernel) ?_ | refine Nd.mk (by decide +kernel) ?_ | refine Nd.mk (by omega) ?_ | (refine Nd.mk ?_ ?_; focus ((repeat' (first | exact trivial | exact wkE_refl _ | refine And.intro ?_ ?_)); done)) | refine RdN.intro _ rfl (by rfl) ?_); (conv => whnf))))
          refine ⟨(i + 1, l', ob', cap', used'), ⟨by omega, hrun, hob', hll', hu'⟩, by show ds.length - (i + 1) < ds.length - i; omega, ?_, ?_⟩
          · (repeat' (first | exact trivial | refine And.intro (by with_reducible rfl) ?_ | (with_reducible exact wkC_refl _) | (with_reducible exact wkCs_refl _) | refine And.intro ?_ ?_))
            all_goals first | rfl | exact av_int (by omega) | exact av_int (by rw [wrap_i64 (by omega)]; omega)
          · exact ⟨wkE_refl _, wkE_refl _, wkE_refl _, wkE_refl _, wkH_nil _⟩
      | false =>
        ((conv => whnf); (repeat ((first | refine BoxN.own ?_ | refine RwN.own ?_ | refine VrN.norm (wrap_i64 (by omega)) ?_ | refine VrN.keep ?_ | refine DrawN.calm (by decide +kernel) ?_ | refine Nd.mk (by decide +kernel) ?_ | refine Nd.mk (by omega) ?_ | (refine Nd.mk ?_ ?_; focus ((repeat' (first | exact trivial | exact wkE_refl _ | refine And.intro ?_ ?_)); done)) | refine RdN.intro _ rfl (by rfl) ?_); (conv => whnf))))
        refine call1 (isPlace_c d _) ?_
        cases hpl : isPl d.letter with
        | true =>
          have hT : times d (items.length - used) = 1 := by unfold times; rw [hstr, hpl]; rfl
          -- 1: the times
          rw [hT] at hrun
          ((conv => whnf); (repeat ((first | refine BoxN.own ?_ | refine RwN.own ?_ | refine VrN.norm (wrap_i64 (by omega)) ?_ | refine VrN.keep ?_ | refine DrawN.calm (by decide +kernel) ?_ | refine Nd.mk (by decide +kernel) ?_ | refine Nd.mk (by omega) ?_ | (refine Nd.mk ?_ ?_; focus ((repeat' (first | exact trivial | exact wkE_refl _ | refine And.intro ?_ ?_)); done)) | refine RdN.intro _ rfl (by rfl) ?_); (conv => whnf))))
          refine LoopN.intro (Nat × List UInt8 × Option Nat × Nat × Nat) (fun ⟨j, l', ob', cap', used'⟩ => j ≤ 1 ∧ timesS d items (1 - j) l' used' = timesS d items (1) l used ∧ ((ob' = none → l' = [] ∧ cap' = 0) ∧ l'.length ≤ cap') ∧ l'.length ≤ 100000 ∧ used' ≤ items.length)
            (fun ⟨j, _, _, _, _⟩ => mkS Tryd.f37.ntmps 0 [(1, .c (.v (.slice ia items.length icap))), (8, .c (.v (.pointer (some ⟨pb, 0, none⟩)))), (10, .c (.lp 4 0)), (23, .c (.v (.slice (some ⟨db, 0, none⟩) ds.length dcap))), (24, .c (.v (.int .i64 (ds.length : Int)))), (25, .c (.v (.int .i64 (i : Int)))), (52, .c (.v (.int .i64 ((1 : Nat) : Int)))), (53, .c (.v (.int .i64 (j : Int))))])
            (fun ⟨_, l', ob', cap', used'⟩ => [.fact (ItemsF ia items), .fact G, pkE pb ob' l'.length cap' ia items.length icap used', outE l' ob' cap', .blk 57 [.v (.int .u8 (d.letter.toNat : Int)), .v (.bool d.big), .v (.int .i64 d.count)]]) (fun ⟨j, _, _, _, _⟩ => 1 - j) [] rfl
            (fun _ => rfl) (fun _ => rfl) (fun _ _ => okHB_eq rfl) ⟨(0, l, ob, cap, used), ⟨Nat.zero_le _, rfl, hob, hll, hu⟩, ?_, ?_⟩ ?_
          · (repeat' (first | exact trivial | refine And.intro (by with_reducible rfl) ?_ | (with_reducible exact wkC_refl _) | (with_reducible exact wkCs_refl _) | refine And.intro ?_ ?_))
            all_goals first | rfl | exact av_int (by omega) | exact av_int (by rw [wrap_i64 (by omega)]; omega)
          · exact ⟨wkE_refl _, wkE_refl _, wkE_refl _, wkE_refl _, wkE_refl _, wkH_nil _⟩
          rintro ⟨j, l', ob', cap', used'⟩ ⟨hj, hts, hob', hll', hu'⟩
          ((conv => whnf); (repeat ((first | refine BoxN.own ?_ | refine RwN.own ?_ | refine VrN.norm (wrap_i64 (by omega)) ?_ | refine VrN.keep ?_ | refine DrawN.calm (by decide +kernel) ?_ | refine Nd.mk (by decide +kernel) ?_ | refine Nd.mk (by omega) ?_ | (refine Nd.mk ?_ ?_; focus ((repeat' (first | exact trivial | exact wkE_refl _ | refine And.intro ?_ ?_)); done)) | refine RdN.intro _ rfl (by rfl) ?_); (conv => whnf))))
          refine brd_dec (fun h2 => ?_) (fun h2 => ?_)
          · have hstep := timesS_succ (d := d) (items := items) (1 - j - 1) l' used'
            rw [show 1 - j - 1 + 1 = 1 - j by omega, hts] at hstep
            rw [hstep] at hrun
            ((conv => whnf); (repeat ((first | refine BoxN.own ?_ | refine RwN.own ?_ | refine VrN.norm (wrap_i64 (by omega)) ?_ | refine VrN.keep ?_ | refine DrawN.calm (by decide +kernel) ?_ | refine Nd.mk (by decide +kernel) ?_ | refine Nd.mk (by omega) ?_ | (refine Nd.mk ?_ ?_; focus ((repeat' (first | exact trivial | exact wkE_refl _ | refine And.intro ?_ ?_)); done)) | refine RdN.intro _ rfl (by rfl) ?_); (conv => whnf))))
            refine callG (one_c pb d l' ob' cap' ia items icap used' hdok hob' hll' hia hu' hl hi) [0, 2, 3] rfl ⟨rfl, rfl, rfl, trivial⟩ rfl ?_
            rintro ⟨l2, ob2, cap2, used2, e⟩ ⟨h3, h4, h5⟩
            by_cases he : e = 0
            · have he0 : e = 0 := he
              subst he0
              simp only [if_true] at h5
              have hfit := oneS_fit hu' h5
              rw [h5] at hstep hrun
              ((conv => whnf); (repeat ((first | refine BoxN.own ?_ | refine RwN.own ?_ | refine VrN.norm (wrap_i64 (by omega)) ?_ | refine VrN.keep ?_ | refine DrawN.calm (by decide +kernel) ?_ | refine Nd.mk (by decide +kernel) ?_ | refine Nd.mk (by omega) ?_ | (refine Nd.mk ?_ ?_; focus ((repeat' (first | exact trivial | exact wkE_refl _ | refine And.intro ?_ ?_)); done)) | refine RdN.intro _ rfl (by rfl) ?_); (conv => whnf))))
              refine ⟨(j + 1, l2, ob2, cap2, used2), ⟨by omega, by rw [show 1 - (j + 1) = 1 - j - 1 by omega, hstep], ⟨h3, h4⟩, hfit.1, hfit.2⟩, by show 1 - (j + 1) < 1 - j; omega, ?_, ?_⟩
              · (repeat' (first | exact trivial | refine And.intro (by with_reducible rfl) ?_ | (with_reducible exact wkC_refl _) | (with_reducible exact wkCs_refl _) | refine And.intro ?_ ?_))
                all_goals first | rfl | exact av_int (by omega) | exact av_int (by rw [wrap_i64 (by omega)]; omega)
              · exact ⟨wkE_refl _, wkE_refl _, wkE_refl _, wkE_refl _, wkE_refl _, wkH_nil _⟩
            · have he0 : ¬ e = 0 := he
              simp only [if_neg he0] at h5
              rw [h5] at hrun
              ((conv => whnf); (repeat ((first | refine BoxN.own ?_ | refine RwN.own ?_ | refine VrN.norm (wrap_i64 (by omega)) ?_ | refine VrN.keep ?_ | refine DrawN.calm (by decide +kernel) ?_ | refine Nd.mk (by decide +kernel) ?_ | refine Nd.mk (by omega) ?_ | (refine Nd.mk ?_ ?_; focus ((repeat' (first | exact trivial | exact wkE_refl _ | refine And.intro ?_ ?_)); done)) | refine RdN.intro _ rfl (by rfl) ?_); (conv => whnf))))
              refine brd_ne (fun _ => ?_) (fun h6 => absurd h6 he0)
              ((conv => whnf); (repeat ((first | refine BoxN.own ?_ | refine RwN.own ?_ | refine VrN.norm (wrap_i64 (by omega)) ?_ | refine VrN.keep ?_ | refine DrawN.calm (by decide +kernel) ?_ | refine Nd.mk (by decide +kernel) ?_ | refine Nd.mk (by omega) ?_ | (refine Nd.mk ?_ ?_; focus ((repeat' (first | exact trivial | exact wkE_refl _ | refine And.intro ?_ ?_)); done)) | refine RdN.intro _ rfl (by rfl) ?_); (conv => whnf))))
              refine fin_v ?_
              show RunR ia items icap (runS items ds [] 0) _ _
              rw [← hrun]
              rfl
          · have hj2 : j = 1 := by omega
            have hts2 : timesS d items (1) l used = .ok (l', used') := by
              rw [← hts, hj2, Nat.sub_self]
              rfl
            rw [hts2] at hrun
            ((conv => whnf); (repeat ((first | refine BoxN.own ?_ | refine RwN.own ?_ | refine VrN.norm (wrap_i64 (by omega)) ?_ | refine VrN.keep ?_ | refine DrawN.calm (by decide +kernel) ?_ | refine Nd.mk (by decide +kernel) ?_ | refine Nd.mk (by omega) ?_ | (refine Nd.mk ?_ ?_; focus ((repeat' (first | exact trivial | exact wkE_refl _ | refine And.intro ?_ ?_)); done)) | refine RdN.intro _ rfl (by rfl) ?_); (conv => whnf))))
            refine ⟨(i + 1, l', ob', cap', used'), ⟨by omega, hrun, hob', hll', hu'⟩, by show ds.length - (i + 1) < ds.length - i; omega, ?_, ?_⟩
            · (repeat' (first | exact trivial | refine And.intro (by with_reducible rfl) ?_ | (with_reducible exact wkC_refl _) | (with_reducible exact wkCs_refl _) | refine And.intro ?_ ?_))
              all_goals first | rfl | exact av_int (by omega) | exact av_int (by rw [wrap_i64 (by omega)]; omega)
            · exact ⟨wkE_refl _, wkE_refl _, wkE_refl _, wkE_refl _, wkH_nil _⟩
        | false =>
          have hT0 : times d (items.length - used) = cntS d (items.length - used) := by unfold times; rw [hstr, hpl]; rfl
          ((conv => whnf); (repeat ((first | refine BoxN.own ?_ | refine RwN.own ?_ | refine VrN.norm (wrap_i64 (by omega)) ?_ | refine VrN.keep ?_ | refine DrawN.calm (by decide +kernel) ?_ | refine Nd.mk (by decide +kernel) ?_ | refine Nd.mk (by omega) ?_ | (refine Nd.mk ?_ ?_; focus ((repeat' (first | exact trivial | exact wkE_refl _ | refine And.intro ?_ ?_)); done)) | refine RdN.intro _ rfl (by rfl) ?_); (conv => whnf))))
          refine brd_eq (fun h2 => ?_) (fun h2 => ?_)
          · have hT : times d (items.length - used) = 1 := by rw [hT0]; unfold cntS; rw [if_pos (by simpa using h2)]
            -- 1: the times
            rw [hT] at hrun
            ((conv => whnf); (repeat ((first | refine BoxN.own ?_ | refine RwN.own ?_ | refine VrN.norm (wrap_i64 (by omega)) ?_ | refine VrN.keep ?_ | refine DrawN.calm (by decide +kernel) ?_ | refine Nd.mk (by decide +kernel) ?_ | refine Nd.mk (by omega) ?_ | (refine Nd.mk ?_ ?_; focus ((repeat' (first | exact trivial | exact wkE_refl _ | refine And.intro ?_ ?_)); done)) | refine RdN.intro _ rfl (by rfl) ?_); (conv => whnf))))
            refine LoopN.intro (Nat × List UInt8 × Option Nat × Nat × Nat) (fun ⟨j, l', ob', cap', used'⟩ => j ≤ 1 ∧ timesS d items (1 - j) l' used' = timesS d items (1) l used ∧ ((ob' = none → l' = [] ∧ cap' = 0) ∧ l'.length ≤ cap') ∧ l'.length ≤ 100000 ∧ used' ≤ items.length)
              (fun ⟨j, _, _, _, _⟩ => mkS Tryd.f37.ntmps 0 [(1, .c (.v (.slice ia items.length icap))), (8, .c (.v (.pointer (some ⟨pb, 0, none⟩)))), (10, .c (.lp 4 0)), (23, .c (.v (.slice (some ⟨db, 0, none⟩) ds.length dcap))), (24, .c (.v (.int .i64 (ds.length : Int)))), (25, .c (.v (.int .i64 (i : Int)))), (52, .c (.v (.int .i64 ((1 : Nat) : Int)))), (53, .c (.v (.int .i64 (j : Int))))])
              (fun ⟨_, l', ob', cap', used'⟩ => [.fact (ItemsF ia items), .fact G, pkE pb ob' l'.length cap' ia items.length icap used', outE l' ob' cap', .blk 57 [.v (.int .u8 (d.letter.toNat : Int)), .v (.bool d.big), .v (.int .i64 d.count)]]) (fun ⟨j, _, _, _, _⟩ => 1 - j) [] rfl
              (fun _ => rfl) (fun _ => rfl) (fun _ _ => okHB_eq rfl) ⟨(0, l, ob, cap, used), ⟨Nat.zero_le _, rfl, hob, hll, hu⟩, ?_, ?_⟩ ?_
            · (repeat' (first | exact trivial | refine And.intro (by with_reducible rfl) ?_ | (with_reducible exact wkC_refl _) | (with_reducible exact wkCs_refl _) | refine And.intro ?_ ?_))
              all_goals first | rfl | exact av_int (by omega) | exact av_int (by rw [wrap_i64 (by omega)]; omega)
            · exact ⟨wkE_refl _, wkE_refl _, wkE_refl _, wkE_refl _, wkE_refl _, wkH_nil _⟩
            rintro ⟨j, l', ob', cap', used'⟩ ⟨hj, hts, hob', hll', hu'⟩
            ((conv => whnf); (repeat ((first | refine BoxN.own ?_ | refine RwN.own ?_ | refine VrN.norm (wrap_i64 (by omega)) ?_ | refine VrN.keep ?_ | refine DrawN.calm (by decide +kernel) ?_ | refine Nd.mk (by decide +kernel) ?_ | refine Nd.mk (by omega) ?_ | (refine Nd.mk ?_ ?_; focus ((repeat' (first | exact trivial | exact wkE_refl _ | refine And.intro ?_ ?_)); done)) | refine RdN.intro _ rfl (by rfl) ?_); (conv => whnf))))
            refine brd_dec (fun h2 => ?_) (fun h2 => ?_)
            · have hstep := timesS_succ (d := d) (items := items) (1 - j - 1) l' used'
              rw [show 1 - j - 1 + 1 = 1 - j by omega, hts] at hstep
              rw [hstep] at hrun
              ((conv => whnf); (repeat ((first | refine BoxN.own ?_ | refine RwN.own ?_ | refine VrN.norm (wrap_i64 (by omega)) ?_ | refine VrN.keep ?_ | refine DrawN.calm (by decide +kernel) ?_ | refine Nd.mk (by decide +kernel) ?_ | refine Nd.mk (by omega) ?_ | (refine Nd.mk ?_ ?_; focus ((repeat' (first | exact trivial | exact wkE_refl _ | refine And.intro ?_ ?_)); done)) | refine RdN.intro _ rfl (by rfl) ?_); (conv => whnf))))
              refine callG (one_c pb d l' ob' cap' ia items icap used' hdok hob' hll' hia hu' hl hi) [0, 2, 3] rfl ⟨rfl, rfl, rfl, trivial⟩ rfl ?_
              rintro ⟨l2, ob2, cap2, used2, e⟩ ⟨h3, h4, h5⟩
              by_cases he : e = 0
              · have he0 : e = 0 := he
                subst he0
                simp only [if_true] at h5
                have hfit := oneS_fit hu' h5
                rw [h5] at hstep hrun
                ((conv => whnf); (repeat ((first | refine BoxN.own ?_ | refine RwN.own ?_ | refine VrN.norm (wrap_i64 (by omega)) ?_ | refine VrN.keep ?_ | refine DrawN.calm (by decide +kernel) ?_ | refine Nd.mk (by decide +kernel) ?_ | refine Nd.mk (by omega) ?_ | (refine Nd.mk ?_ ?_; focus ((repeat' (first | exact trivial | exact wkE_refl _ | refine And.intro ?_ ?_)); done)) | refine RdN.intro _ rfl (by rfl) ?_); (conv => whnf))))
                refine ⟨(j + 1, l2, ob2, cap2, used2), ⟨by omega, by rw [show 1 - (j + 1) = 1 - j - 1 by omega, hstep], ⟨h3, h4⟩, hfit.1, hfit.2⟩, by show 1 - (j + 1) < 1 - j; omega, ?_, ?_⟩
                · (repeat' (first | exact trivial | refine And.intro (by with_reducible rfl) ?_ | (with_reducible exact wkC_refl _) | (with_reducible exact wkCs_refl _) | refine And.intro ?_ ?_))
                  all_goals first | rfl | exact av_int (by omega) | exact av_int (by rw [wrap_i64 (by omega)]; omega)
                · exact ⟨wkE_refl _, wkE_refl _, wkE_refl _, wkE_refl _, wkE_refl _, wkH_nil _⟩
              · have he0 : ¬ e = 0 := he
                simp only [if_neg he0] at h5
                rw [h5] at hrun
                ((conv => whnf); (repeat ((first | refine BoxN.own ?_ | refine RwN.own ?_ | refine VrN.norm (wrap_i64 (by omega)) ?_ | refine VrN.keep ?_ | refine DrawN.calm (by decide +kernel) ?_ | refine Nd.mk (by decide +kernel) ?_ | refine Nd.mk (by omega) ?_ | (refine Nd.mk ?_ ?_; focus ((repeat' (first | exact trivial | exact wkE_refl _ | refine And.intro ?_ ?_)); done)) | refine RdN.intro _ rfl (by rfl) ?_); (conv => whnf))))
                refine brd_ne (fun _ => ?_) (fun h6 => absurd h6 he0)
                ((conv => whnf); (repeat ((first | refine BoxN.own ?_ | refine RwN.own ?_ | refine VrN.norm (wrap_i64 (by omega)) ?_ | refine VrN.keep ?_ | refine DrawN.calm (by decide +kernel) ?_ | refine Nd.mk (by decide +kernel) ?_ | refine Nd.mk (by omega) ?_ | (refine Nd.mk ?_ ?_; focus ((repeat' (first | exact trivial | exact wkE_refl _ | refine And.intro ?_ ?_)); done)) | refine RdN.intro _ rfl (by rfl) ?_); (conv => whnf))))
                refine fin_v ?_
                show RunR ia items icap (runS items ds [] 0) _ _
                rw [← hrun]
                rfl
            · have hj2 : j = 1 := by omega
              have hts2 : timesS d items (1) l used = .ok (l', used') := by
                rw [← hts, hj2, Nat.sub_self]
                rfl
              rw [hts2] at hrun
              ((conv => whnf); (repeat ((first | refine BoxN.own ?_ | refine RwN.own ?_ | refine VrN.norm (wrap_i64 (by omega)) ?_ | refine VrN.keep ?_ | refine DrawN.calm (by decide +kernel) ?_ | refine Nd.mk (by decide +kernel) ?_ | refine Nd.mk (by omega) ?_ | (refine Nd.mk ?_ ?_; focus ((repeat' (first | exact trivial | exact wkE_refl _ | refine And.intro ?_ ?_)); done)) | refine RdN.intro _ rfl (by rfl) ?_); (conv => whnf))))
              refine ⟨(i + 1, l', ob', cap', used'), ⟨by omega, hrun, hob', hll', hu'⟩, by show ds.length - (i + 1) < ds.length - i; omega, ?_, ?_⟩
              · (repeat' (first | exact trivial | refine And.intro (by with_reducible rfl) ?_ | (with_reducible exact wkC_refl _) | (with_reducible exact wkCs_refl _) | refine And.intro ?_ ?_))
                all_goals first | rfl | exact av_int (by omega) | exact av_int (by rw [wrap_i64 (by omega)]; omega)
              · exact ⟨wkE_refl _, wkE_refl _, wkE_refl _, wkE_refl _, wkH_nil _⟩
          · ((conv => whnf); (repeat ((first | refine BoxN.own ?_ | refine RwN.own ?_ | refine VrN.norm (wrap_i64 (by omega)) ?_ | refine VrN.keep ?_ | refine DrawN.calm (by decide +kernel) ?_ | refine Nd.mk (by decide +kernel) ?_ | refine Nd.mk (by omega) ?_ | (refine Nd.mk ?_ ?_; focus ((repeat' (first | exact trivial | exact wkE_refl _ | refine And.intro ?_ ?_)); done)) | refine RdN.intro _ rfl (by rfl) ?_); (conv => whnf))))
            refine brd_eq (fun h3 => ?_) (fun h3 => ?_)
            · have hT : times d (items.length - used) = items.length - used := by rw [hT0]; unfold cntS; rw [if_neg (by simpa using h2), if_pos (by simpa using h3)]
              ((conv => whnf); (repeat ((first | refine BoxN.own ?_ | refine RwN.own ?_ | refine VrN.norm (wrap_i64 (by omega)) ?_ | refine VrN.keep ?_ | refine DrawN.calm (by decide +kernel) ?_ | refine Nd.mk (by decide +kernel) ?_ | refine Nd.mk (by omega) ?_ | (refine Nd.mk ?_ ?_; focus ((repeat' (first | exact trivial | exact wkE_refl _ | refine And.intro ?_ ?_)); done)) | refine RdN.intro _ rfl (by rfl) ?_); (conv => whnf))))
              refine LdN.one (a := some ⟨pb, 0, none⟩) (q := 2) (.int .i64 (used : Int)) rfl (fun w hw => hw.2.2.1) rfl ?_
              -- (items.length - used): the times
              rw [hT] at hrun
              ((conv => whnf); (repeat ((first | refine BoxN.own ?_ | refine RwN.own ?_ | refine VrN.norm (wrap_i64 (by omega)) ?_ | refine VrN.keep ?_ | refine DrawN.calm (by decide +kernel) ?_ | refine Nd.mk (by decide +kernel) ?_ | refine Nd.mk (by omega) ?_ | (refine Nd.mk ?_ ?_; focus ((repeat' (first | exact trivial | exact wkE_refl _ | refine And.intro ?_ ?_)); done)) | refine RdN.intro _ rfl (by rfl) ?_); (conv => whnf))))
              refine LoopN.intro (Nat × List UInt8 × Option Nat × Nat × Nat) (fun ⟨j, l', ob', cap', used'⟩ => j ≤ (items.length - used) ∧ timesS d items ((items.length - used) - j) l' used' = timesS d items ((items.length - used)) l used ∧ ((ob' = none → l' = [] ∧ cap' = 0) ∧ l'.length ≤ cap') ∧ l'.length ≤ 100000 ∧ used' ≤ items.length)
                (fun ⟨j, _, _, _, _⟩ => mkS Tryd.f37.ntmps 0 [(1, .c (.v (.slice ia items.length icap))), (8, .c (.v (.pointer (some ⟨pb, 0, none⟩)))), (10, .c (.lp 4 0)), (23, .c (.v (.slice (some ⟨db, 0, none⟩) ds.length dcap))), (24, .c (.v (.int .i64 (ds.length : Int)))), (25, .c (.v (.int .i64 (i : Int)))), (52, .c (.v (.int .i64 (((items.length - used) : Nat) : Int)))), (53, .c (.v (.int .i64 (j : Int))))])
                (fun ⟨_, l', ob', cap', used'⟩ => [.fact (ItemsF ia items), .fact G, pkE pb ob' l'.length cap' ia items.length icap used', outE l' ob' cap', .blk 57 [.v (.int .u8 (d.letter.toNat : Int)), .v (.bool d.big), .v (.int .i64 d.count)]]) (fun ⟨j, _, _, _, _⟩ => (items.length - used) - j) [] rfl
                (fun _ => rfl) (fun _ => rfl) (fun _ _ => okHB_eq rfl) ⟨(0, l, ob, cap, used), ⟨Nat.zero_le _, rfl, hob, hll, hu⟩, ?_, ?_⟩ ?_
              · (repeat' (first | exact trivial | refine And.intro (by with_reducible rfl) ?_ | (with_reducible exact wkC_refl _) | (with_reducible exact wkCs_refl _) | refine And.intro ?_ ?_))
                all_goals first | rfl | exact av_int (by omega) | exact av_int (by rw [wrap_i64 (by omega)]; omega)
              · exact ⟨wkE_refl _, wkE_refl _, wkE_refl _, wkE_refl _, wkE_refl _, wkH_nil _⟩
              rintro ⟨j, l', ob', cap', used'⟩ ⟨hj, hts, hob', hll', hu'⟩
              ((conv => whnf); (repeat ((first | refine BoxN.own ?_ | refine RwN.own ?_ | refine VrN.norm (wrap_i64 (by omega)) ?_ | refine VrN.keep ?_ | refine DrawN.calm (by decide +kernel) ?_ | refine Nd.mk (by decide +kernel) ?_ | refine Nd.mk (by omega) ?_ | (refine Nd.mk ?_ ?_; focus ((repeat' (first | exact trivial | exact wkE_refl _ | refine And.intro ?_ ?_)); done)) | refine RdN.intro _ rfl (by rfl) ?_); (conv => whnf))))
              refine brd_dec (fun h2 => ?_) (fun h2 => ?_)
              · have hstep := timesS_succ (d := d) (items := items) ((items.length - used) - j - 1) l' used'
                rw [show (items.length - used) - j - 1 + 1 = (items.length - used) - j by omega, hts] at hstep
                rw [hstep] at hrun
                ((conv => whnf); (repeat ((first | refine BoxN.own ?_ | refine RwN.own ?_ | refine VrN.norm (wrap_i64 (by omega)) ?_ | refine VrN.keep ?_ | refine DrawN.calm (by decide +kernel) ?_ | refine Nd.mk (by decide +kernel) ?_ | refine Nd.mk (by omega) ?_ | (refine Nd.mk ?_ ?_; focus ((repeat' (first | exact trivial | exact wkE_refl _ | refine And.intro ?_ ?_)); done)) | refine RdN.intro _ rfl (by rfl) ?_); (conv => whnf))))
                refine callG (one_c pb d l' ob' cap' ia items icap used' hdok hob' hll' hia hu' hl hi) [0, 2, 3] rfl ⟨rfl, rfl, rfl, trivial⟩ rfl ?_
                rintro ⟨l2, ob2, cap2, used2, e⟩ ⟨h3, h4, h5⟩
                by_cases he : e = 0
                · have he0 : e = 0 := he
                  subst he0
                  simp only [if_true] at h5
                  have hfit := oneS_fit hu' h5
                  rw [h5] at hstep hrun
                  ((conv => whnf); (repeat ((first | refine BoxN.own ?_ | refine RwN.own ?_ | refine VrN.norm (wrap_i64 (by omega)) ?_ | refine VrN.keep ?_ | refine DrawN.calm (by decide +kernel) ?_ | refine Nd.mk (by decide +kernel) ?_ | refine Nd.mk (by omega) ?_ | (refine Nd.mk ?_ ?_; focus ((repeat' (first | exact trivial | exact wkE_refl _ | refine And.intro ?_ ?_)); done)) | refine RdN.intro _ rfl (by rfl) ?_); (conv => whnf))))
                  refine ⟨(j + 1, l2, ob2, cap2, used2), ⟨by omega, by rw [show (items.length - used) - (j + 1) = (items.length - used) - j - 1 by omega, hstep], ⟨h3, h4⟩, hfit.1, hfit.2⟩, by show (items.length - used) - (j + 1) < (items.length - used) - j; omega, ?_, ?_⟩
                  · (repeat' (first | exact trivial | refine And.intro (by with_reducible rfl) ?_ | (with_reducible exact wkC_refl _) | (with_reducible exact wkCs_refl _) | refine And.intro ?_ ?_))
                    all_goals first | rfl | exact av_int (by omega) | exact av_int (by rw [wrap_i64 (by omega)]; omega)
                  · exact ⟨wkE_refl _, wkE_refl _, wkE_refl _, wkE_refl _, wkE_refl _, wkH_nil _⟩
                · have he0 : ¬ e = 0 := he
                  simp only [if_neg he0] at h5
                  rw [h5] at hrun
                  ((conv => whnf); (repeat ((first | refine BoxN.own ?_ | refine RwN.own ?_ | refine VrN.norm (wrap_i64 (by omega)) ?_ | refine VrN.keep ?_ | refine DrawN.calm (by decide +kernel) ?_ | refine Nd.mk (by decide +kernel) ?_ | refine Nd.mk (by omega) ?_ | (refine Nd.mk ?_ ?_; focus ((repeat' (first | exact trivial | exact wkE_refl _ | refine And.intro ?_ ?_)); done)) | refine RdN.intro _ rfl (by rfl) ?_); (conv => whnf))))
                  refine brd_ne (fun _ => ?_) (fun h6 => absurd h6 he0)
                  ((conv => whnf); (repeat ((first | refine BoxN.own ?_ | refine RwN.own ?_ | refine VrN.norm (wrap_i64 (by omega)) ?_ | refine VrN.keep ?_ | refine DrawN.calm (by decide +kernel) ?_ | refine Nd.mk (by decide +kernel) ?_ | refine Nd.mk (by omega) ?_ | (refine Nd.mk ?_ ?_; focus ((repeat' (first | exact trivial | exact wkE_refl _ | refine And.intro ?_ ?_)); done)) | refine RdN.intro _ rfl (by rfl) ?_); (conv => whnf))))
                  refine fin_v ?_
                  show RunR ia items icap (runS items ds [] 0) _ _
                  rw [← hrun]
                  rfl
              · have hj2 : j = (items.length - used) := by omega
                have hts2 : timesS d items ((items.length - used)) l used = .ok (l', used') := by
                  rw [← hts, hj2, Nat.sub_self]
                  rfl
                rw [hts2] at hrun
                ((conv => whnf); (repeat ((first | refine BoxN.own ?_ | refine RwN.own ?_ | refine VrN.norm (wrap_i64 (by omega)) ?_ | refine VrN.keep ?_ | refine DrawN.calm (by decide +kernel) ?_ | refine Nd.mk (by decide +kernel) ?_ | refine Nd.mk (by omega) ?_ | (refine Nd.mk ?_ ?_; focus ((repeat' (first | exact trivial | exact wkE_refl _ | refine And.intro ?_ ?_)); done)) | refine RdN.intro _ rfl (by rfl) ?_); (conv => whnf))))
                refine ⟨(i + 1, l', ob', cap', used'), ⟨by omega, hrun, hob', hll', hu'⟩, by show ds.length - (i + 1) < ds.length - i; omega, ?_, ?_⟩
                · (repeat' (first | exact trivial | refine And.intro (by with_reducible rfl) ?_ | (with_reducible exact wkC_refl _) | (with_reducible exact wkCs_refl _) | refine And.intro ?_ ?_))
                  all_goals first | rfl | exact av_int (by omega) | exact av_int (by rw [wrap_i64 (by omega)]; omega)
                · exact ⟨wkE_refl _, wkE_refl _, wkE_refl _, wkE_refl _, wkH_nil _⟩
            · have hc : 0 ≤ d.count ∧ d.count ≤ 1000 := by
                have := hdok.2
                unfold CntOk at this
                omega
              obtain ⟨T, hTe⟩ : ∃ T : Nat, d.count.toNat = T := ⟨_, rfl⟩
              have hT : times d (items.length - used) = T := by rw [hT0]; unfold cntS; rw [if_neg (by simpa using h2), if_neg (by simpa using h3)]; exact hTe
              -- T: the times
              rw [hT] at hrun
              ((conv => whnf); (repeat ((first | refine BoxN.own ?_ | refine RwN.own ?_ | refine VrN.norm (wrap_i64 (by omega)) ?_ | refine VrN.keep ?_ | refine DrawN.calm (by decide +kernel) ?_ | refine Nd.mk (by decide +kernel) ?_ | refine Nd.mk (by omega) ?_ | (refine Nd.mk ?_ ?_; focus ((repeat' (first | exact trivial | exact wkE_refl _ | refine And.intro ?_ ?_)); done)) | refine RdN.intro _ rfl (by rfl) ?_); (conv => whnf))))
              refine LoopN.intro (Nat × List UInt8 × Option Nat × Nat × Nat) (fun ⟨j, l', ob', cap', used'⟩ => j ≤ T ∧ timesS d items (T - j) l' used' = timesS d items (T) l used ∧ ((ob' = none → l' = [] ∧ cap' = 0) ∧ l'.length ≤ cap') ∧ l'.length ≤ 100000 ∧ used' ≤ items.length)
                (fun ⟨j, _, _, _, _⟩ => mkS Tryd.f37.ntmps 0 [(1, .c (.v (.slice ia items.length icap))), (8, .c (.v (.pointer (some ⟨pb, 0, none⟩)))), (10, .c (.lp 4 0)), (23, .c (.v (.slice (some ⟨db, 0, none⟩) ds.length dcap))), (24, .c (.v (.int .i64 (ds.length : Int)))), (25, .c (.v (.int .i64 (i : Int)))), (52, .c (.v (.int .i64 ((T : Nat) : Int)))), (53, .c (.v (.int .i64 (j : Int))))])
                (fun ⟨_, l', ob', cap', used'⟩ => [.fact (ItemsF ia items), .fact G, pkE pb ob' l'.length cap' ia items.length icap used', outE l' ob' cap', .blk 57 [.v (.int .u8 (d.letter.toNat : Int)), .v (.bool d.big), .v (.int .i64 d.count)]]) (fun ⟨j, _, _, _, _⟩ => T - j) [] rfl
                (fun _ => rfl) (fun _ => rfl) (fun _ _ => okHB_eq rfl) ⟨(0, l, ob, cap, used), ⟨Nat.zero_le _, rfl, hob, hll, hu⟩, ?_, ?_⟩ ?_
              · (repeat' (first | exact trivial | refine And.intro (by with_reducible rfl) ?_ | (with_reducible exact wkC_refl _) | (with_reducible exact wkCs_refl _) | refine And.intro ?_ ?_))
                all_goals first | rfl | exact av_int (by omega) | exact av_int (by rw [wrap_i64 (by omega)]; omega)
              · exact ⟨wkE_refl _, wkE_refl _, wkE_refl _, wkE_refl _, wkE_refl _, wkH_nil _⟩
              rintro ⟨j, l', ob', cap', used'⟩ ⟨hj, hts, hob', hll', hu'⟩
              ((conv => whnf); (repeat ((first | refine BoxN.own ?_ | refine RwN.own ?_ | refine VrN.norm (wrap_i64 (by omega)) ?_ | refine VrN.keep ?_ | refine DrawN.calm (by decide +kernel) ?_ | refine Nd.mk (by decide +kernel) ?_ | refine Nd.mk (by omega) ?_ | (refine Nd.mk ?_ ?_; focus ((repeat' (first | exact trivial | exact wkE_refl _ | refine And.intro ?_ ?_)); done)) | refine RdN.intro _ rfl (by rfl) ?_); (conv => whnf))))
              refine brd_dec (fun h2 => ?_) (fun h2 => ?_)
              · have hstep := timesS_succ (d := d) (items := items) (T - j - 1) l' used'
                rw [show T - j - 1 + 1 = T - j by omega, hts] at hstep
                rw [hstep] at hrun
                ((conv => whnf); (repeat ((first | refine BoxN.own ?_ | refine RwN.own ?_ | refine VrN.norm (wrap_i64 (by omega)) ?_ | refine VrN.keep ?_ | refine DrawN.calm (by decide +kernel) ?_ | refine Nd.mk (by decide +kernel) ?_ | refine Nd.mk (by omega) ?_ | (refine Nd.mk ?_ ?_; focus ((repeat' (first | exact trivial | exact wkE_refl _ | refine And.intro ?_ ?_)); done)) | refine RdN.intro _ rfl (by rfl) ?_); (conv => whnf))))
                refine callG (one_c pb d l' ob' cap' ia items icap used' hdok hob' hll' hia hu' hl hi) [0, 2, 3] rfl ⟨rfl, rfl, rfl, trivial⟩ rfl ?_
                rintro ⟨l2, ob2, cap2, used2, e⟩ ⟨h3, h4, h5⟩
                by_cases he : e = 0
                · have he0 : e = 0 := he
                  subst he0
                  simp only [if_true] at h5
                  have hfit := oneS_fit hu' h5
                  rw [h5] at hstep hrun
                  ((conv => whnf); (repeat ((first | refine BoxN.own ?_ | refine RwN.own ?_ | refine VrN.norm (wrap_i64 (by omega)) ?_ | refine VrN.keep ?_ | refine DrawN.calm (by decide +kernel) ?_ | refine Nd.mk (by decide +kernel) ?_ | refine Nd.mk (by omega) ?_ | (refine Nd.mk ?_ ?_; focus ((repeat' (first | exact trivial | exact wkE_refl _ | refine And.intro ?_ ?_)); done)) | refine RdN.intro _ rfl (by rfl) ?_); (conv => whnf))))
                  refine ⟨(j + 1, l2, ob2, cap2, used2), ⟨by omega, by rw [show T - (j + 1) = T - j - 1 by omega, hstep], ⟨h3, h4⟩, hfit.1, hfit.2⟩, by show T - (j + 1) < T - j; omega, ?_, ?_⟩
                  · (repeat' (first | exact trivial | refine And.intro (by with_reducible rfl) ?_ | (with_reducible exact wkC_refl _) | (with_reducible exact wkCs_refl _) | refine And.intro ?_ ?_))
                    all_goals first | rfl | exact av_int (by omega) | exact av_int (by rw [wrap_i64 (by omega)]; omega)
                  · exact ⟨wkE_refl _, wkE_refl _, wkE_refl _, wkE_refl _, wkE_refl _, wkH_nil _⟩
                · have he0 : ¬ e = 0 := he
                  simp only [if_neg he0] at h5
                  rw [h5] at hrun
                  ((conv => whnf); (repeat ((first | refine BoxN.own ?_ | refine RwN.own ?_ | refine VrN.norm (wrap_i64 (by omega)) ?_ | refine VrN.keep ?_ | refine DrawN.calm (by decide +kernel) ?_ | refine Nd.mk (by decide +kernel) ?_ | refine Nd.mk (by omega) ?_ | (refine Nd.mk ?_ ?_; focus ((repeat' (first | exact trivial | exact wkE_refl _ | refine And.intro ?_ ?_)); done)) | refine RdN.intro _ rfl (by rfl) ?_); (conv => whnf))))
                  refine brd_ne (fun _ => ?_) (fun h6 => absurd h6 he0)
                  ((conv => whnf); (repeat ((first | refine BoxN.own ?_ | refine RwN.own ?_ | refine VrN.norm (wrap_i64 (by omega)) ?_ | refine VrN.keep ?_ | refine DrawN.calm (by decide +kernel) ?_ | refine Nd.mk (by decide +kernel) ?_ | refine Nd.mk (by omega) ?_ | (refine Nd.mk ?_ ?_; focus ((repeat' (first | exact trivial | exact wkE_refl _ | refine And.intro ?_ ?_)); done)) | refine RdN.intro _ rfl (by rfl) ?_); (conv => whnf))))
                  refine fin_v ?_
                  show RunR ia items icap (runS items ds [] 0) _ _
                  rw [← hrun]
                  rfl
              · have hj2 : j = T := by omega
                have hts2 : timesS d items (T) l used = .ok (l', used') := by
                  rw [← hts, hj2, Nat.sub_self]
                  rfl
                rw [hts2] at hrun
                ((conv => whnf); (repeat ((first | refine BoxN.own ?_ | refine RwN.own ?_ | refine VrN.norm (wrap_i64 (by omega)) ?_ | refine VrN.keep ?_ | refine DrawN.calm (by decide +kernel) ?_ | refine Nd.mk (by decide +kernel) ?_ | refine Nd.mk (by omega) ?_ | (refine Nd.mk ?_ ?_; focus ((repeat' (first | exact trivial | exact wkE_refl _ | refine And.intro ?_ ?_)); done)) | refine RdN.intro _ rfl (by rfl) ?_); (conv => whnf))))
                refine ⟨(i + 1, l', ob', cap', used'), ⟨by omega, hrun, hob', hll', hu'⟩, by show ds.length - (i + 1) < ds.length - i; omega, ?_, ?_⟩
                · (repeat' (first | exact trivial | refine And.intro (by with_reducible rfl) ?_ | (with_reducible exact wkC_refl _) | (with_reducible exact wkCs_refl _) | refine And.intro ?_ ?_))
                  all_goals first | rfl | exact av_int (by omega) | exact av_int (by rw [wrap_i64 (by omega)]; omega)
                · exact ⟨wkE_refl _, wkE_refl _, wkE_refl _, wkE_refl _, wkH_nil _⟩
    · have hi : i = ds.length := by omega
      subst hi
      rw [List.drop_length] at hrun
      ((conv => whnf); (repeat ((first | refine BoxN.own ?_ | refine RwN.own ?_ | refine VrN.norm (wrap_i64 (by omega)) ?_ | refine VrN.keep ?_ | refine DrawN.calm (by decide +kernel) ?_ | refine Nd.mk (by decide +kernel) ?_ | refine Nd.mk (by omega) ?_ | (refine Nd.mk ?_ ?_; focus ((repeat' (first | exact trivial | exact wkE_refl _ | refine And.intro ?_ ?_)); done)) | refine RdN.intro _ rfl (by rfl) ?_); (conv => whnf))))
      refine fin_p (fun w => SlAt (some ⟨pb, 0, none⟩) 3 [.slice (at0 ob) l.length cap, .slice ia items.length icap, .int .i64 (used : Int)] w ∧ SlAt (at0 ob) l.length (u8s l) w) ?_ (fun w hw => ⟨hw.2.2.1, by simpa using hw.2.2.2.1⟩)
      simp only
      rw [← hrun]
      exact ⟨pb, ob, cap, rfl, fun h => (hob.1 h).1, hob.2, fun w hw => hw⟩
end Go.Proofs.YtjkchonpnocffaaDoor

/-
  Contracts: Pack, Used, Size (program).
-/
namespace Go.Proofs.YtjkchonpnocffaaDoor
open Go.AX Go.RowKit Go.Pack
set_option maxRecDepth 20000

def packV : Except Int (List UInt8 × Nat) → Value
  | .ok (l, _) => .tuple #[.string (bs l), .int .i64 0]
  | .error e => .tuple #[.string (bs []), .int .i64 e]
theorem Pack_c (form : List UInt8) (ia : Option Addr) (items : List Pack.Item) (icap : Nat) (hs : form.length ≤ 100000)
    (hia : items ≠ [] → ia.isSome = true) (hl : items.length ≤ 100000) (hi : ∀ x ∈ items, x.text.length ≤ 200000 ∧ -9223372036854775808 ≤ x.int ∧ x.int < 9223372036854775808) :
    ∀ H, (∀ w, Facts H w → ItemsF ia items w) → SpecH Tryd.prog 17 (pvs [.string (bs form), .slice ia items.length icap]) H (Ret (packV (packS form items)) H) := by
  refine factC hm Tryd.func17 (by kernel_rfl) rfl rfl ?_
  ((conv => whnf); (repeat ((first | refine BoxN.own ?_ | refine RwN.own ?_ | refine VrN.norm (wrap_i64 (by omega)) ?_ | refine VrN.keep ?_ | refine DrawN.calm (by decide +kernel) ?_ | refine Nd.mk (by decide +kernel) ?_ | refine Nd.mk (by omega) ?_ | (refine Nd.mk ?_ ?_; focus ((repeat' (first | exact trivial | exact wkE_refl _ | refine And.intro ?_ ?_)); done)) | refine RdN.intro _ rfl (by rfl) ?_); (conv => whnf))))
  refine SpecF.call (run_c form ia items icap hs hia hl hi) (fun w hw => hw.1) fun v G hR => ?_
  cases hp : packS form items with
  | error e =>
    rw [hp] at hR
    obtain rfl := hR
    have he := packS_err hp
    ((conv => whnf); (repeat ((first | refine BoxN.own ?_ | refine RwN.own ?_ | refine VrN.norm (wrap_i64 (by omega)) ?_ | refine VrN.keep ?_ | refine DrawN.calm (by decide +kernel) ?_ | refine Nd.mk (by decide +kernel) ?_ | refine Nd.mk (by omega) ?_ | (refine Nd.mk ?_ ?_; focus ((repeat' (first | exact trivial | exact wkE_refl _ | refine And.intro ?_ ?_)); done)) | refine RdN.intro _ rfl (by rfl) ?_); (conv => whnf))))
    refine brd_ne (fun _ => ?_) (fun h6 => absurd h6 he)
    ((conv => whnf); (repeat ((first | refine BoxN.own ?_ | refine RwN.own ?_ | refine VrN.norm (wrap_i64 (by omega)) ?_ | refine VrN.keep ?_ | refine DrawN.calm (by decide +kernel) ?_ | refine Nd.mk (by decide +kernel) ?_ | refine Nd.mk (by omega) ?_ | (refine Nd.mk ?_ ?_; focus ((repeat' (first | exact trivial | exact wkE_refl _ | refine And.intro ?_ ?_)); done)) | refine RdN.intro _ rfl (by rfl) ?_); (conv => whnf))))
    rfl
  | ok x =>
    obtain ⟨l, u⟩ := x
    rw [hp] at hR
    obtain ⟨pb, ob, cap, rfl, hob, hlc, hG⟩ := hR
    ((conv => whnf); (repeat ((first | refine BoxN.own ?_ | refine RwN.own ?_ | refine VrN.norm (wrap_i64 (by omega)) ?_ | refine VrN.keep ?_ | refine DrawN.calm (by decide +kernel) ?_ | refine Nd.mk (by decide +kernel) ?_ | refine Nd.mk (by omega) ?_ | (refine Nd.mk ?_ ?_; focus ((repeat' (first | exact trivial | exact wkE_refl _ | refine And.intro ?_ ?_)); done)) | refine RdN.intro _ rfl (by rfl) ?_); (conv => whnf))))
    refine LdN.one (a := some ⟨pb, 0, none⟩) (q := 0) (.slice (at0 ob) l.length cap) rfl (fun w hw => (hG w hw.2.1).1) rfl ?_
    ((conv => whnf); (repeat ((first | refine BoxN.own ?_ | refine RwN.own ?_ | refine VrN.norm (wrap_i64 (by omega)) ?_ | refine VrN.keep ?_ | refine DrawN.calm (by decide +kernel) ?_ | refine Nd.mk (by decide +kernel) ?_ | refine Nd.mk (by omega) ?_ | (refine Nd.mk ?_ ?_; focus ((repeat' (first | exact trivial | exact wkE_refl _ | refine And.intro ?_ ?_)); done)) | refine RdN.intro _ rfl (by rfl) ?_); (conv => whnf))))
    refine ReadW.bytes l rfl rfl rfl rfl rfl rfl (fun w hw => (hG w hw.2.1).2) ?_
    ((conv => whnf); (repeat ((first | refine BoxN.own ?_ | refine RwN.own ?_ | refine VrN.norm (wrap_i64 (by omega)) ?_ | refine VrN.keep ?_ | refine DrawN.calm (by decide +kernel) ?_ | refine Nd.mk (by decide +kernel) ?_ | refine Nd.mk (by omega) ?_ | (refine Nd.mk ?_ ?_; focus ((repeat' (first | exact trivial | exact wkE_refl _ | refine And.intro ?_ ?_)); done)) | refine RdN.intro _ rfl (by rfl) ?_); (conv => whnf))))
    rfl
end Go.Proofs.YtjkchonpnocffaaDoor

/-
  Contract: Size (program).
-/
namespace Go.Proofs.YtjkchonpnocffaaDoor
open Go.AX Go.RowKit Go.Pack
set_option maxRecDepth 20000

end Go.Proofs.YtjkchonpnocffaaDoor

/-
  Contracts: how many bytes are left, bytes are taken (program).
-/
namespace Go.Proofs.YtjkchonpnocffaaDoor
open Go.AX Go.RowKit Go.Pack
set_option maxRecDepth 20000

/-- An unpacker's cells. -/
def unC (s : List UInt8) (a : Nat) (out : Option Nat) (len cap : Nat) : List Value := [.string (bs s), .int .i64 (a : Int), .slice (at0 out) len cap]
def unE (ub : Nat) (s : List UInt8) (a : Nat) (out : Option Nat) (len cap : Nat) : Ent := .app 55 3 (unC s a out len cap) (some ⟨ub, 0, none⟩) 1 1
def UnF (ub : Nat) (s : List UInt8) (a : Nat) (out : Option Nat) (len cap : Nat) (w : World) : Prop := SlAt (some ⟨ub, 0, none⟩) 3 (unC s a out len cap) w
theorem left_c (ub : Nat) (s : List UInt8) (a : Nat) (out : Option Nat) (len cap : Nat) (ha : a ≤ s.length) (hs : s.length ≤ 1000000) :
    ∀ H, (∀ w, Facts H w → UnF ub s a out len cap w) → SpecH Tryd.prog 24 (pvs [.pointer (some ⟨ub, 0, none⟩)]) H (Ret (.int .i64 ((s.length - a : Nat) : Int)) H) := by
  refine factC hm Tryd.func24 (by kernel_rfl) rfl rfl ?_
  have hz := bs_size s
  ((conv => whnf); (repeat ((first | refine BoxN.own ?_ | refine RwN.own ?_ | refine VrN.norm (wrap_i64 (by omega)) ?_ | refine VrN.keep ?_ | refine DrawN.calm (by decide +kernel) ?_ | refine Nd.mk (by decide +kernel) ?_ | refine Nd.mk (by omega) ?_ | (refine Nd.mk ?_ ?_; focus ((repeat' (first | exact trivial | exact wkE_refl _ | refine And.intro ?_ ?_)); done)) | refine RdN.intro _ rfl (by rfl) ?_); (conv => whnf))))
  refine LdN.one (a := some ⟨ub, 0, none⟩) (q := 0) (.string (bs s)) rfl (fun w hw => hw.1) rfl ?_
  ((conv => whnf); (repeat ((first | refine BoxN.own ?_ | refine RwN.own ?_ | refine VrN.norm (wrap_i64 (by omega)) ?_ | refine VrN.keep ?_ | refine DrawN.calm (by decide +kernel) ?_ | refine Nd.mk (by decide +kernel) ?_ | refine Nd.mk (by omega) ?_ | (refine Nd.mk ?_ ?_; focus ((repeat' (first | exact trivial | exact wkE_refl _ | refine And.intro ?_ ?_)); done)) | refine RdN.intro _ rfl (by rfl) ?_); (conv => whnf))))
  refine LdN.one (a := some ⟨ub, 0, none⟩) (q := 1) (.int .i64 (a : Int)) rfl (fun w hw => hw.1) rfl ?_
  ((conv => whnf); (repeat ((first | refine BoxN.own ?_ | refine RwN.own ?_ | refine VrN.norm (wrap_i64 (by omega)) ?_ | refine VrN.keep ?_ | refine DrawN.calm (by decide +kernel) ?_ | refine Nd.mk (by decide +kernel) ?_ | refine Nd.mk (by omega) ?_ | (refine Nd.mk ?_ ?_; focus ((repeat' (first | exact trivial | exact wkE_refl _ | refine And.intro ?_ ?_)); done)) | refine RdN.intro _ rfl (by rfl) ?_); (conv => whnf))))
  rw [Int.ofNat_sub ha, hz]
theorem cut_c (ub : Nat) (s : List UInt8) (a n : Nat) (out : Option Nat) (len cap : Nat) (ha : a + n ≤ s.length) (hs : s.length ≤ 1000000) :
    SpecH Tryd.prog 54 [.c (.v (.pointer (some ⟨ub, 0, none⟩))), .c (.v (.int .i64 (n : Int)))] [unE ub s a out len cap]
      (RetG (ι := Unit) (fun _ => True) (fun _ => .string (bs ((s.drop a).take n))) fun _ => [unE ub s (a + n) out len cap]) := by
  refine ownC hm Tryd.func54 (by kernel_rfl) rfl rfl (fun _ _ => okHB_eq rfl) (fun _ _ => Nat.le_refl _) ?_
  have hz := bs_size s
  ((conv => whnf); (repeat ((first | refine BoxN.own ?_ | refine RwN.own ?_ | refine VrN.norm (wrap_i64 (by omega)) ?_ | refine VrN.keep ?_ | refine DrawN.calm (by decide +kernel) ?_ | refine Nd.mk (by decide +kernel) ?_ | refine Nd.mk (by omega) ?_ | (refine Nd.mk ?_ ?_; focus ((repeat' (first | exact trivial | exact wkE_refl _ | refine And.intro ?_ ?_)); done)) | refine RdN.intro _ rfl (by rfl) ?_); (conv => whnf))))
  refine LdN.one (a := some ⟨ub, 0, none⟩) (q := 0) (.string (bs s)) rfl (fun w hw => hw.1) rfl ?_
  ((conv => whnf); (repeat ((first | refine BoxN.own ?_ | refine RwN.own ?_ | refine VrN.norm (wrap_i64 (by omega)) ?_ | refine VrN.keep ?_ | refine DrawN.calm (by decide +kernel) ?_ | refine Nd.mk (by decide +kernel) ?_ | refine Nd.mk (by omega) ?_ | (refine Nd.mk ?_ ?_; focus ((repeat' (first | exact trivial | exact wkE_refl _ | refine And.intro ?_ ?_)); done)) | refine RdN.intro _ rfl (by rfl) ?_); (conv => whnf))))
  refine LdN.one (a := some ⟨ub, 0, none⟩) (q := 1) (.int .i64 (a : Int)) rfl (fun w hw => hw.1) rfl ?_
  ((conv => whnf); (repeat ((first | refine BoxN.own ?_ | refine RwN.own ?_ | refine VrN.norm (wrap_i64 (by omega)) ?_ | refine VrN.keep ?_ | refine DrawN.calm (by decide +kernel) ?_ | refine Nd.mk (by decide +kernel) ?_ | refine Nd.mk (by omega) ?_ | (refine Nd.mk ?_ ?_; focus ((repeat' (first | exact trivial | exact wkE_refl _ | refine And.intro ?_ ?_)); done)) | refine RdN.intro _ rfl (by rfl) ?_); (conv => whnf))))
  refine LdN.one (a := some ⟨ub, 0, none⟩) (q := 1) (.int .i64 (a : Int)) rfl (fun w hw => hw.1) rfl ?_
  ((conv => whnf); (repeat ((first | refine BoxN.own ?_ | refine RwN.own ?_ | refine VrN.norm (wrap_i64 (by omega)) ?_ | refine VrN.keep ?_ | refine DrawN.calm (by decide +kernel) ?_ | refine Nd.mk (by decide +kernel) ?_ | refine Nd.mk (by omega) ?_ | (refine Nd.mk ?_ ?_; focus ((repeat' (first | exact trivial | exact wkE_refl _ | refine And.intro ?_ ?_)); done)) | refine RdN.intro _ rfl (by rfl) ?_); (conv => whnf))))
  refine ReadW.sl_lh a (a + n) rfl Tryd.underlying9 rfl rfl rfl ⟨rfl, by rw [wrap_i64 (by omega)]; omega, by omega, ha⟩ ?_
  ((conv => whnf); (repeat ((first | refine BoxN.own ?_ | refine RwN.own ?_ | refine VrN.norm (wrap_i64 (by omega)) ?_ | refine VrN.keep ?_ | refine DrawN.calm (by decide +kernel) ?_ | refine Nd.mk (by decide +kernel) ?_ | refine Nd.mk (by omega) ?_ | (refine Nd.mk ?_ ?_; focus ((repeat' (first | exact trivial | exact wkE_refl _ | refine And.intro ?_ ?_)); done)) | refine RdN.intro _ rfl (by rfl) ?_); (conv => whnf))))
  refine LdN.one (a := some ⟨ub, 0, none⟩) (q := 1) (.int .i64 (a : Int)) rfl (fun w hw => hw.1) rfl ?_
  ((conv => whnf); (repeat ((first | refine BoxN.own ?_ | refine RwN.own ?_ | refine VrN.norm (wrap_i64 (by omega)) ?_ | refine VrN.keep ?_ | refine DrawN.calm (by decide +kernel) ?_ | refine Nd.mk (by decide +kernel) ?_ | refine Nd.mk (by omega) ?_ | (refine Nd.mk ?_ ?_; focus ((repeat' (first | exact trivial | exact wkE_refl _ | refine And.intro ?_ ?_)); done)) | refine RdN.intro _ rfl (by rfl) ?_); (conv => whnf))))
  refine EffW.appTo (i := 0) (q := 1) (ys := [_]) (unC s (a + n) out len cap) 3 rfl rfl rfl rfl rfl rfl rfl (Nat.le_of_ble_eq_true rfl) (by
    show [_, Value.int .i64 _, _] = [_, Value.int .i64 _, _]
    rw [wrap_i64 (by omega)]
    rfl) rfl ?_
  ((conv => whnf); (repeat ((first | refine BoxN.own ?_ | refine RwN.own ?_ | refine VrN.norm (wrap_i64 (by omega)) ?_ | refine VrN.keep ?_ | refine DrawN.calm (by decide +kernel) ?_ | refine Nd.mk (by decide +kernel) ?_ | refine Nd.mk (by omega) ?_ | (refine Nd.mk ?_ ?_; focus ((repeat' (first | exact trivial | exact wkE_refl _ | refine And.intro ?_ ?_)); done)) | refine RdN.intro _ rfl (by rfl) ?_); (conv => whnf))))
  refine ⟨(), trivial, ?_, wkE_refl _, wkH_nil _⟩
  rw [List.take_drop]
end Go.Proofs.YtjkchonpnocffaaDoor

/-
  Contract: a number in groups of 7 bits is read (program).
-/
namespace Go.Proofs.YtjkchonpnocffaaDoor
open Go.AX Go.RowKit Go.Pack
set_option maxRecDepth 20000

/-- What a reader of numbers gives: the number, the error, where it stands. -/
def NumOk (r : Except Int (Int × Nat)) (a len : Nat) (i : Int × Int × Nat) : Prop := match r with
  | .ok (n, k) => i = (n, 0, a + k) ∧ a + k ≤ len
  | .error e => i.1 = 0 ∧ i.2.1 = e ∧ i.2.2 ≤ len
def numV (i : Int × Int × Nat) : Value := .tuple #[.int .i64 i.1, .int .i64 i.2.1]
theorem lowF : ∀ y : Fin 256, IntKind.u8.wrap ((BitVec.ofInt 8 (y.val : Int) &&& BitVec.ofInt 8 127).toNat : Int) = ((y.val % 128 : Nat) : Int) := by decide +kernel
theorem low7 (c : UInt8) : IntKind.u8.wrap ((BitVec.ofInt IntKind.u8.bits (c.toNat : Int) &&& BitVec.ofInt IntKind.u8.bits 127).toNat : Int) = ((c.toNat % 128 : Nat) : Int) := lowF ⟨c.toNat, UInt8.toNat_lt c⟩
theorem grp_cons (f n i : Nat) (c : UInt8) (r : List UInt8) : grp (f + 1) n i (c :: r) = if i = 0 ∧ c = 128 then .error 5 else if c < 128 then .ok (n * 128 + c.toNat % 128, i + 1) else grp f (n * 128 + c.toNat % 128) (i + 1) r := rfl
theorem group_c (ub : Nat) (s : List UInt8) (a : Nat) (out : Option Nat) (len cap : Nat) (ha : a ≤ s.length) (hs : s.length ≤ 1000000) :
    SpecH Tryd.prog 83 [.c (.v (.pointer (some ⟨ub, 0, none⟩)))] [unE ub s a out len cap]
      (RetG (NumOk (grp 9 0 0 (s.drop a)) a s.length) numV fun i => [unE ub s i.2.2 out len cap]) := by
  refine ownC hm Tryd.func83 (by kernel_rfl) rfl rfl (fun _ _ => okHB_eq rfl) (fun _ _ => Nat.le_refl _) ?_
  ((conv => whnf); (repeat ((first | refine BoxN.own ?_ | refine RwN.own ?_ | refine VrN.norm (wrap_i64 (by omega)) ?_ | refine VrN.keep ?_ | refine DrawN.calm (by decide +kernel) ?_ | refine Nd.mk (by decide +kernel) ?_ | refine Nd.mk (by omega) ?_ | (refine Nd.mk ?_ ?_; focus ((repeat' (first | exact trivial | exact wkE_refl _ | refine And.intro ?_ ?_)); done)) | refine RdN.intro _ rfl (by rfl) ?_); (conv => whnf))))
  refine LoopN.intro (Nat × Nat) (fun ⟨i, n⟩ => i ≤ 9 ∧ n < 128 ^ i ∧ a + i ≤ s.length ∧ grp (9 - i) n i (s.drop (a + i)) = grp 9 0 0 (s.drop a))
    (fun ⟨i, n⟩ => mkS Tryd.f83.ntmps 0 [(0, .c (.v (.pointer (some ⟨ub, 0, none⟩)))), (4, .c (.v (.int .i64 (n : Int)))), (5, .c (.v (.int .i64 (i : Int))))])
    (fun ⟨i, _⟩ => [unE ub s (a + i) out len cap]) (fun ⟨i, _⟩ => 10 - i) [] rfl
    (fun _ => rfl) (fun _ => rfl) (fun _ _ => okHB_eq rfl) ⟨(0, 0), ⟨Nat.zero_le _, by decide, ha, rfl⟩, ?_, ?_⟩ ?_
  · (repeat' (first | exact trivial | refine And.intro (by with_reducible rfl) ?_ | (with_reducible exact wkC_refl _) | (with_reducible exact wkCs_refl _) | refine And.intro ?_ ?_))
    all_goals rfl
  · exact ⟨wkE_refl _, wkH_nil _⟩
  rintro ⟨i, n⟩ ⟨hi, hn, hai, hg⟩
  ((conv => whnf); (repeat ((first | refine BoxN.own ?_ | refine RwN.own ?_ | refine VrN.norm (wrap_i64 (by omega)) ?_ | refine VrN.keep ?_ | refine DrawN.calm (by decide +kernel) ?_ | refine Nd.mk (by decide +kernel) ?_ | refine Nd.mk (by omega) ?_ | (refine Nd.mk ?_ ?_; focus ((repeat' (first | exact trivial | exact wkE_refl _ | refine And.intro ?_ ?_)); done)) | refine RdN.intro _ rfl (by rfl) ?_); (conv => whnf))))
  refine call1 (left_c ub s (a + i) out len cap hai hs _ (fun w hw => hw.1)) ?_
  ((conv => whnf); (repeat ((first | refine BoxN.own ?_ | refine RwN.own ?_ | refine VrN.norm (wrap_i64 (by omega)) ?_ | refine VrN.keep ?_ | refine DrawN.calm (by decide +kernel) ?_ | refine Nd.mk (by decide +kernel) ?_ | refine Nd.mk (by omega) ?_ | (refine Nd.mk ?_ ?_; focus ((repeat' (first | exact trivial | exact wkE_refl _ | refine And.intro ?_ ?_)); done)) | refine RdN.intro _ rfl (by rfl) ?_); (conv => whnf))))
  cases hd : s.drop (a + i) with
  | nil =>
    have hl := drop_end hd hai
    rw [hd] at hg
    have hg2 : grp 9 0 0 (s.drop a) = .error 14 := by rw [← hg]; cases (9 - i) <;> rfl
    refine brd_eq (fun h1 => ?_) (fun h1 => absurd (by omega) h1)
    ((conv => whnf); (repeat ((first | refine BoxN.own ?_ | refine RwN.own ?_ | refine VrN.norm (wrap_i64 (by omega)) ?_ | refine VrN.keep ?_ | refine DrawN.calm (by decide +kernel) ?_ | refine Nd.mk (by decide +kernel) ?_ | refine Nd.mk (by omega) ?_ | (refine Nd.mk ?_ ?_; focus ((repeat' (first | exact trivial | exact wkE_refl _ | refine And.intro ?_ ?_)); done)) | refine RdN.intro _ rfl (by rfl) ?_); (conv => whnf))))
    exact ⟨(0, 14, a + i), by rw [hg2]; exact ⟨rfl, rfl, hai⟩, rfl, wkE_refl _, wkH_nil _⟩
  | cons c r =>
    obtain ⟨hb, hlt, hdr, hln⟩ := drop_at hd
    have hbi : byteAt (bs s) (Int.toNat ((a + i : Nat) : Int)) = (c.toNat : Int) := by rw [Int.toNat_natCast]; exact hb
    have hzs := bs_size s
    have h128 : ((c.toNat : Int) == 128) = (c == 128) := u8_eq (n := 128) (by decide)
    rw [hd] at hg
    refine brd_eq (fun h1 => absurd h1 (by omega)) (fun h1 => ?_)
    ((conv => whnf); (repeat ((first | refine BoxN.own ?_ | refine RwN.own ?_ | refine VrN.norm (wrap_i64 (by omega)) ?_ | refine VrN.keep ?_ | refine DrawN.calm (by decide +kernel) ?_ | refine Nd.mk (by decide +kernel) ?_ | refine Nd.mk (by omega) ?_ | (refine Nd.mk ?_ ?_; focus ((repeat' (first | exact trivial | exact wkE_refl _ | refine And.intro ?_ ?_)); done)) | refine RdN.intro _ rfl (by rfl) ?_); (conv => whnf))))
    refine brd_eq (fun h9 => ?_) (fun h9 => ?_)
    · have hg2 : grp 9 0 0 (s.drop a) = .error 5 := by rw [← hg, show 9 - i = 0 by omega]; rfl
      ((conv => whnf); (repeat ((first | refine BoxN.own ?_ | refine RwN.own ?_ | refine VrN.norm (wrap_i64 (by omega)) ?_ | refine VrN.keep ?_ | refine DrawN.calm (by decide +kernel) ?_ | refine Nd.mk (by decide +kernel) ?_ | refine Nd.mk (by omega) ?_ | (refine Nd.mk ?_ ?_; focus ((repeat' (first | exact trivial | exact wkE_refl _ | refine And.intro ?_ ?_)); done)) | refine RdN.intro _ rfl (by rfl) ?_); (conv => whnf))))
      exact ⟨(0, 5, a + i), by rw [hg2]; exact ⟨rfl, rfl, hai⟩, rfl, wkE_refl _, wkH_nil _⟩
    · obtain ⟨f, hf⟩ : ∃ f, 9 - i = f + 1 := ⟨8 - i, by omega⟩
      rw [hf, grp_cons] at hg
      have h56 : n < 72057594037927936 := Nat.lt_of_lt_of_le hn (Nat.pow_le_pow_right (by decide) (show i ≤ 8 by omega))
      ((conv => whnf); (repeat ((first | refine BoxN.own ?_ | refine RwN.own ?_ | refine VrN.norm (wrap_i64 (by omega)) ?_ | refine VrN.keep ?_ | refine DrawN.calm (by decide +kernel) ?_ | refine Nd.mk (by decide +kernel) ?_ | refine Nd.mk (by omega) ?_ | (refine Nd.mk ?_ ?_; focus ((repeat' (first | exact trivial | exact wkE_refl _ | refine And.intro ?_ ?_)); done)) | refine RdN.intro _ rfl (by rfl) ?_); (conv => whnf))))
      refine brd_eq (fun h0 => ?_) (fun h0 => ?_)
      · ((conv => whnf); (repeat ((first | refine BoxN.own ?_ | refine RwN.own ?_ | refine VrN.norm (wrap_i64 (by omega)) ?_ | refine VrN.keep ?_ | refine DrawN.calm (by decide +kernel) ?_ | refine Nd.mk (by decide +kernel) ?_ | refine Nd.mk (by omega) ?_ | (refine Nd.mk ?_ ?_; focus ((repeat' (first | exact trivial | exact wkE_refl _ | refine And.intro ?_ ?_)); done)) | refine RdN.intro _ rfl (by rfl) ?_); (conv => whnf))))
        refine LdN.one (a := some ⟨ub, 0, none⟩) (q := 0) (.string (bs s)) rfl (fun w hw => hw.1) rfl ?_
        ((conv => whnf); (repeat ((first | refine BoxN.own ?_ | refine RwN.own ?_ | refine VrN.norm (wrap_i64 (by omega)) ?_ | refine VrN.keep ?_ | refine DrawN.calm (by decide +kernel) ?_ | refine Nd.mk (by decide +kernel) ?_ | refine Nd.mk (by omega) ?_ | (refine Nd.mk ?_ ?_; focus ((repeat' (first | exact trivial | exact wkE_refl _ | refine And.intro ?_ ?_)); done)) | refine RdN.intro _ rfl (by rfl) ?_); (conv => whnf))))
        refine LdN.one (a := some ⟨ub, 0, none⟩) (q := 1) (.int .i64 ((a + i : Nat) : Int)) rfl (fun w hw => hw.1) rfl ?_
        ((conv => whnf); (repeat ((first | refine BoxN.own ?_ | refine RwN.own ?_ | refine VrN.norm (wrap_i64 (by omega)) ?_ | refine VrN.keep ?_ | refine DrawN.calm (by decide +kernel) ?_ | refine Nd.mk (by decide +kernel) ?_ | refine Nd.mk (by omega) ?_ | (refine Nd.mk ?_ ?_; focus ((repeat' (first | exact trivial | exact wkE_refl _ | refine And.intro ?_ ?_)); done)) | refine RdN.intro _ rfl (by rfl) ?_); (conv => whnf))))
        rw [hbi, h128]
        cases hc : c == 128 with
        | true =>
          have hg2 : grp 9 0 0 (s.drop a) = .error 5 := by rw [← hg, if_pos ⟨by omega, by simpa using hc⟩]
          ((conv => whnf); (repeat ((first | refine BoxN.own ?_ | refine RwN.own ?_ | refine VrN.norm (wrap_i64 (by omega)) ?_ | refine VrN.keep ?_ | refine DrawN.calm (by decide +kernel) ?_ | refine Nd.mk (by decide +kernel) ?_ | refine Nd.mk (by omega) ?_ | (refine Nd.mk ?_ ?_; focus ((repeat' (first | exact trivial | exact wkE_refl _ | refine And.intro ?_ ?_)); done)) | refine RdN.intro _ rfl (by rfl) ?_); (conv => whnf))))
          exact ⟨(0, 5, a + i), by rw [hg2]; exact ⟨rfl, rfl, hai⟩, rfl, wkE_refl _, wkH_nil _⟩
        | false =>
          rw [if_neg (fun h => by rw [h.2] at hc; cases hc)] at hg
          ((conv => whnf); (repeat ((first | refine BoxN.own ?_ | refine RwN.own ?_ | refine VrN.norm (wrap_i64 (by omega)) ?_ | refine VrN.keep ?_ | refine DrawN.calm (by decide +kernel) ?_ | refine Nd.mk (by decide +kernel) ?_ | refine Nd.mk (by omega) ?_ | (refine Nd.mk ?_ ?_; focus ((repeat' (first | exact trivial | exact wkE_refl _ | refine And.intro ?_ ?_)); done)) | refine RdN.intro _ rfl (by rfl) ?_); (conv => whnf))))
          refine callG (cut_c ub s (a + i) 1 out len cap (by omega) hs) [0] rfl ⟨rfl, trivial⟩ rfl fun _ _ => ?_
          rw [hd, show List.take 1 (c :: r) = [c] from rfl]
          have hb0 : byteAt (bs [c]) 0 = (c.toNat : Int) := rfl
          have hz1 : (bs [c]).size = 1 := rfl
          have hb1 : byteAt (bs [c]) (Int.toNat 0) = (c.toNat : Int) := rfl
          have hV : IntKind.i64.wrap (IntKind.i64.wrap ((n : Int) * 2 ^ min (Int.toNat 7) IntKind.i64.bits) + IntKind.i64.wrap (IntKind.u8.wrap ((BitVec.ofInt IntKind.u8.bits (byteAt (bs [c]) (Int.toNat 0)) &&& BitVec.ofInt IntKind.u8.bits 127).toNat : Int))) = ((n * 128 + c.toNat % 128 : Nat) : Int) := by
            rw [hb1, low7, show (2 : Int) ^ min (Int.toNat 7) IntKind.i64.bits = 128 from rfl, wrap_i64 (x := (n : Int) * 128) (by omega), wrap_i64 (x := ((c.toNat % 128 : Nat) : Int)) (by omega), wrap_i64 (by omega)]
            omega
          have hai1 : a + i + 1 ≤ s.length := by omega
          ((conv => whnf); (repeat ((first | refine BoxN.own ?_ | refine RwN.own ?_ | refine VrN.norm (wrap_i64 (by omega)) ?_ | refine VrN.keep ?_ | refine DrawN.calm (by decide +kernel) ?_ | refine Nd.mk (by decide +kernel) ?_ | refine Nd.mk (by omega) ?_ | (refine Nd.mk ?_ ?_; focus ((repeat' (first | exact trivial | exact wkE_refl _ | refine And.intro ?_ ?_)); done)) | refine RdN.intro _ rfl (by rfl) ?_); (conv => whnf))))
          rw [hV, hb1]
          refine brd_dec (fun h2 => ?_) (fun h2 => ?_)
          · have hc2 : c < 128 := UInt8.lt_iff_toNat_lt.2 (by show c.toNat < 128; omega)
            rw [if_pos hc2] at hg
            ((conv => whnf); (repeat ((first | refine BoxN.own ?_ | refine RwN.own ?_ | refine VrN.norm (wrap_i64 (by omega)) ?_ | refine VrN.keep ?_ | refine DrawN.calm (by decide +kernel) ?_ | refine Nd.mk (by decide +kernel) ?_ | refine Nd.mk (by omega) ?_ | (refine Nd.mk ?_ ?_; focus ((repeat' (first | exact trivial | exact wkE_refl _ | refine And.intro ?_ ?_)); done)) | refine RdN.intro _ rfl (by rfl) ?_); (conv => whnf))))
            exact ⟨(((n * 128 + c.toNat % 128 : Nat) : Int), 0, a + i + 1), by rw [← hg]; exact ⟨by rw [Nat.add_assoc]; rfl, by omega⟩, rfl, wkE_refl _, wkH_nil _⟩
          · have hc2 : ¬ c < 128 := fun h => h2 (by have h3 : c.toNat < 128 := UInt8.lt_iff_toNat_lt.1 h; omega)
            rw [if_neg hc2, ← hdr] at hg
            ((conv => whnf); (repeat ((first | refine BoxN.own ?_ | refine RwN.own ?_ | refine VrN.norm (wrap_i64 (by omega)) ?_ | refine VrN.keep ?_ | refine DrawN.calm (by decide +kernel) ?_ | refine Nd.mk (by decide +kernel) ?_ | refine Nd.mk (by omega) ?_ | (refine Nd.mk ?_ ?_; focus ((repeat' (first | exact trivial | exact wkE_refl _ | refine And.intro ?_ ?_)); done)) | refine RdN.intro _ rfl (by rfl) ?_); (conv => whnf))))
            refine ⟨(i + 1, n * 128 + c.toNat % 128), ⟨by omega, by rw [Nat.pow_succ]; omega, by omega, by rw [show 9 - (i + 1) = f by omega]; exact hg⟩, by show 10 - (i + 1) < 10 - i; omega, ?_, ?_⟩
            · (repeat' (first | exact trivial | refine And.intro (by with_reducible rfl) ?_ | (with_reducible exact wkC_refl _) | (with_reducible exact wkCs_refl _) | refine And.intro ?_ ?_))
              all_goals first | rfl | exact av_int (by omega) | exact av_int (by rw [wrap_i64 (by omega)]; omega)
            · exact ⟨wkE_refl _, wkH_nil _⟩
      · rw [if_neg (fun h => h0 (by omega))] at hg
        ((conv => whnf); (repeat ((first | refine BoxN.own ?_ | refine RwN.own ?_ | refine VrN.norm (wrap_i64 (by omega)) ?_ | refine VrN.keep ?_ | refine DrawN.calm (by decide +kernel) ?_ | refine Nd.mk (by decide +kernel) ?_ | refine Nd.mk (by omega) ?_ | (refine Nd.mk ?_ ?_; focus ((repeat' (first | exact trivial | exact wkE_refl _ | refine And.intro ?_ ?_)); done)) | refine RdN.intro _ rfl (by rfl) ?_); (conv => whnf))))
        refine callG (cut_c ub s (a + i) 1 out len cap (by omega) hs) [0] rfl ⟨rfl, trivial⟩ rfl fun _ _ => ?_
        rw [hd, show List.take 1 (c :: r) = [c] from rfl]
        have hb0 : byteAt (bs [c]) 0 = (c.toNat : Int) := rfl
        have hz1 : (bs [c]).size = 1 := rfl
        have hb1 : byteAt (bs [c]) (Int.toNat 0) = (c.toNat : Int) := rfl
        have hV : IntKind.i64.wrap (IntKind.i64.wrap ((n : Int) * 2 ^ min (Int.toNat 7) IntKind.i64.bits) + IntKind.i64.wrap (IntKind.u8.wrap ((BitVec.ofInt IntKind.u8.bits (byteAt (bs [c]) (Int.toNat 0)) &&& BitVec.ofInt IntKind.u8.bits 127).toNat : Int))) = ((n * 128 + c.toNat % 128 : Nat) : Int) := by
          rw [hb1, low7, show (2 : Int) ^ min (Int.toNat 7) IntKind.i64.bits = 128 from rfl, wrap_i64 (x := (n : Int) * 128) (by omega), wrap_i64 (x := ((c.toNat % 128 : Nat) : Int)) (by omega), wrap_i64 (by omega)]
          omega
        have hai1 : a + i + 1 ≤ s.length := by omega
        ((conv => whnf); (repeat ((first | refine BoxN.own ?_ | refine RwN.own ?_ | refine VrN.norm (wrap_i64 (by omega)) ?_ | refine VrN.keep ?_ | refine DrawN.calm (by decide +kernel) ?_ | refine Nd.mk (by decide +kernel) ?_ | refine Nd.mk (by omega) ?_ | (refine Nd.mk ?_ ?_; focus ((repeat' (first | exact trivial | exact wkE_refl _ | refine And.intro ?_ ?_)); done)) | refine RdN.intro _ rfl (by rfl) ?_); (conv => whnf))))
        rw [hV, hb1]
        refine brd_dec (fun h2 => ?_) (fun h2 => ?_)
        · have hc2 : c < 128 := UInt8.lt_iff_toNat_lt.2 (by show c.toNat < 128; omega)
          rw [if_pos hc2] at hg
          ((conv => whnf); (repeat ((first | refine BoxN.own ?_ | refine RwN.own ?_ | refine VrN.norm (wrap_i64 (by omega)) ?_ | refine VrN.keep ?_ | refine DrawN.calm (by decide +kernel) ?_ | refine Nd.mk (by decide +kernel) ?_ | refine Nd.mk (by omega) ?_ | (refine Nd.mk ?_ ?_; focus ((repeat' (first | exact trivial | exact wkE_refl _ | refine And.intro ?_ ?_)); done)) | refine RdN.intro _ rfl (by rfl) ?_); (conv => whnf))))
          exact ⟨(((n * 128 + c.toNat % 128 : Nat) : Int), 0, a + i + 1), by rw [← hg]; exact ⟨by rw [Nat.add_assoc]; rfl, by omega⟩, rfl, wkE_refl _, wkH_nil _⟩
        · have hc2 : ¬ c < 128 := fun h => h2 (by have h3 : c.toNat < 128 := UInt8.lt_iff_toNat_lt.1 h; omega)
          rw [if_neg hc2, ← hdr] at hg
          ((conv => whnf); (repeat ((first | refine BoxN.own ?_ | refine RwN.own ?_ | refine VrN.norm (wrap_i64 (by omega)) ?_ | refine VrN.keep ?_ | refine DrawN.calm (by decide +kernel) ?_ | refine Nd.mk (by decide +kernel) ?_ | refine Nd.mk (by omega) ?_ | (refine Nd.mk ?_ ?_; focus ((repeat' (first | exact trivial | exact wkE_refl _ | refine And.intro ?_ ?_)); done)) | refine RdN.intro _ rfl (by rfl) ?_); (conv => whnf))))
          refine ⟨(i + 1, n * 128 + c.toNat % 128), ⟨by omega, by rw [Nat.pow_succ]; omega, by omega, by rw [show 9 - (i + 1) = f by omega]; exact hg⟩, by show 10 - (i + 1) < 10 - i; omega, ?_, ?_⟩
          · (repeat' (first | exact trivial | refine And.intro (by with_reducible rfl) ?_ | (with_reducible exact wkC_refl _) | (with_reducible exact wkCs_refl _) | refine And.intro ?_ ?_))
            all_goals first | rfl | exact av_int (by omega) | exact av_int (by rw [wrap_i64 (by omega)]; omega)
          · exact ⟨wkE_refl _, wkH_nil _⟩
end Go.Proofs.YtjkchonpnocffaaDoor

/-
  Contract: a number of a fixed size is read (program).
-/
namespace Go.Proofs.YtjkchonpnocffaaDoor
open Go.AX Go.RowKit Go.Pack
set_option maxRecDepth 20000

theorem or8 (n c : Nat) (hn : n < 72057594037927936) (hc : c < 256) : ((BitVec.ofInt 64 ((n * 256 : Nat) : Int) ||| BitVec.ofInt 64 (c : Int)).toNat : Int) = ((n * 256 + c : Nat) : Int) := by
  rw [BitVec.toNat_or, BitVec.toNat_ofInt, BitVec.toNat_ofInt]
  have e1 : (((n * 256 : Nat) : Int) % ((2 ^ 64 : Nat) : Int)).toNat = n * 256 := by omega
  have e2 : ((c : Int) % ((2 ^ 64 : Nat) : Int)).toNat = c := by omega
  rw [e1, e2]
  have := Nat.shiftLeft_add_eq_or_of_lt (b := c) (i := 8) (by omega) n
  rw [Nat.shiftLeft_eq] at this
  rw [show n * 256 = n * 2 ^ 8 from rfl, ← this]
theorem wrapU (x : Int) : IntKind.u64.wrap x = x % 18446744073709551616 := by simp [IntKind.wrap, IntKind.bits, IntKind.signed]
theorem step8 (n c : Nat) (hn : n < 72057594037927936) (hc : c < 256) : IntKind.u64.wrap ((BitVec.ofInt IntKind.u64.bits (IntKind.u64.wrap ((n : Int) * 2 ^ min (Int.toNat 8) IntKind.u64.bits)) ||| BitVec.ofInt IntKind.u64.bits (IntKind.u64.wrap (c : Int))).toNat : Int) = ((n * 256 + c : Nat) : Int) := by
  rw [show (2 : Int) ^ min (Int.toNat 8) IntKind.u64.bits = 256 from rfl, wrapU ((n : Int) * 256), wrapU (c : Int), show (n : Int) * 256 % 18446744073709551616 = ((n * 256 : Nat) : Int) by omega, show (c : Int) % 18446744073709551616 = (c : Int) by omega]
  show IntKind.u64.wrap ((BitVec.ofInt 64 ((n * 256 : Nat) : Int) ||| BitVec.ofInt 64 (c : Int)).toNat : Int) = _
  rw [or8 n c hn hc, wrapU]
  omega
theorem sz4 {c : UInt8} (h : sz c ≠ 0) : sz c = 1 ∨ sz c = 2 ∨ sz c = 4 ∨ sz c = 8 := by
  unfold sz at *
  split
  · exact .inl rfl
  split
  · exact .inr (.inl rfl)
  split
  · exact .inr (.inr (.inl rfl))
  split
  · exact .inr (.inr (.inr rfl))
  · rename_i h1 h2 h3 h4
    rw [if_neg h1, if_neg h2, if_neg h3, if_neg h4] at h
    exact absurd rfl h
theorem sgn1 (n : Nat) (hn : n < 256) : (IntKind.i64.wrap (IntKind.u64.wrap ((n : Int) * 2 ^ min (IntKind.i64.wrap (64 - IntKind.i64.wrap (8 * ((1 : Nat) : Int)))).toNat IntKind.u64.bits))).fdiv (2 ^ min (IntKind.i64.wrap (64 - IntKind.i64.wrap (8 * ((1 : Nat) : Int)))).toNat IntKind.i64.bits) = if n < 128 then (n : Int) else (n : Int) - 256 := by
  have hpu : (2 : Int) ^ min (IntKind.i64.wrap (64 - IntKind.i64.wrap (8 * ((1 : Nat) : Int)))).toNat IntKind.u64.bits = 72057594037927936 := by decide +kernel
  have hpi : (2 : Int) ^ min (IntKind.i64.wrap (64 - IntKind.i64.wrap (8 * ((1 : Nat) : Int)))).toNat IntKind.i64.bits = 72057594037927936 := by decide +kernel
  rw [hpu, hpi, wrap_u64_eq, Int.fdiv_eq_ediv_of_nonneg _ (by decide)]
  by_cases h : n < 128
  · rw [if_pos h, show (n : Int) * 72057594037927936 % 18446744073709551616 = (n : Int) * 72057594037927936 by omega, wrap_i64 (by omega)]
    omega
  · rw [if_neg h, show (n : Int) * 72057594037927936 % 18446744073709551616 = (n : Int) * 72057594037927936 by omega, wrap_eq, if_pos (by omega)]
    omega
theorem sgn2 (n : Nat) (hn : n < 65536) : (IntKind.i64.wrap (IntKind.u64.wrap ((n : Int) * 2 ^ min (IntKind.i64.wrap (64 - IntKind.i64.wrap (8 * ((2 : Nat) : Int)))).toNat IntKind.u64.bits))).fdiv (2 ^ min (IntKind.i64.wrap (64 - IntKind.i64.wrap (8 * ((2 : Nat) : Int)))).toNat IntKind.i64.bits) = if n < 32768 then (n : Int) else (n : Int) - 65536 := by
  have hpu : (2 : Int) ^ min (IntKind.i64.wrap (64 - IntKind.i64.wrap (8 * ((2 : Nat) : Int)))).toNat IntKind.u64.bits = 281474976710656 := by decide +kernel
  have hpi : (2 : Int) ^ min (IntKind.i64.wrap (64 - IntKind.i64.wrap (8 * ((2 : Nat) : Int)))).toNat IntKind.i64.bits = 281474976710656 := by decide +kernel
  rw [hpu, hpi, wrap_u64_eq, Int.fdiv_eq_ediv_of_nonneg _ (by decide)]
  by_cases h : n < 32768
  · rw [if_pos h, show (n : Int) * 281474976710656 % 18446744073709551616 = (n : Int) * 281474976710656 by omega, wrap_i64 (by omega)]
    omega
  · rw [if_neg h, show (n : Int) * 281474976710656 % 18446744073709551616 = (n : Int) * 281474976710656 by omega, wrap_eq, if_pos (by omega)]
    omega
theorem sgn4 (n : Nat) (hn : n < 4294967296) : (IntKind.i64.wrap (IntKind.u64.wrap ((n : Int) * 2 ^ min (IntKind.i64.wrap (64 - IntKind.i64.wrap (8 * ((4 : Nat) : Int)))).toNat IntKind.u64.bits))).fdiv (2 ^ min (IntKind.i64.wrap (64 - IntKind.i64.wrap (8 * ((4 : Nat) : Int)))).toNat IntKind.i64.bits) = if n < 2147483648 then (n : Int) else (n : Int) - 4294967296 := by
  have hpu : (2 : Int) ^ min (IntKind.i64.wrap (64 - IntKind.i64.wrap (8 * ((4 : Nat) : Int)))).toNat IntKind.u64.bits = 4294967296 := by decide +kernel
  have hpi : (2 : Int) ^ min (IntKind.i64.wrap (64 - IntKind.i64.wrap (8 * ((4 : Nat) : Int)))).toNat IntKind.i64.bits = 4294967296 := by decide +kernel
  rw [hpu, hpi, wrap_u64_eq, Int.fdiv_eq_ediv_of_nonneg _ (by decide)]
  by_cases h : n < 2147483648
  · rw [if_pos h, show (n : Int) * 4294967296 % 18446744073709551616 = (n : Int) * 4294967296 by omega, wrap_i64 (by omega)]
    omega
  · rw [if_neg h, show (n : Int) * 4294967296 % 18446744073709551616 = (n : Int) * 4294967296 by omega, wrap_eq, if_pos (by omega)]
    omega
theorem sgn8 (n : Nat) (hn : n < 18446744073709551616) : (IntKind.i64.wrap (IntKind.u64.wrap ((n : Int) * 2 ^ min (IntKind.i64.wrap (64 - IntKind.i64.wrap (8 * ((8 : Nat) : Int)))).toNat IntKind.u64.bits))).fdiv (2 ^ min (IntKind.i64.wrap (64 - IntKind.i64.wrap (8 * ((8 : Nat) : Int)))).toNat IntKind.i64.bits) = if n < 9223372036854775808 then (n : Int) else (n : Int) - 18446744073709551616 := by
  have hpu : (2 : Int) ^ min (IntKind.i64.wrap (64 - IntKind.i64.wrap (8 * ((8 : Nat) : Int)))).toNat IntKind.u64.bits = 1 := by decide +kernel
  have hpi : (2 : Int) ^ min (IntKind.i64.wrap (64 - IntKind.i64.wrap (8 * ((8 : Nat) : Int)))).toNat IntKind.i64.bits = 1 := by decide +kernel
  rw [hpu, hpi, wrap_u64_eq, Int.fdiv_eq_ediv_of_nonneg _ (by decide)]
  by_cases h : n < 9223372036854775808
  · rw [if_pos h, show (n : Int) * 1 % 18446744073709551616 = (n : Int) * 1 by omega, wrap_i64 (by omega)]
    omega
  · rw [if_neg h, show (n : Int) * 1 % 18446744073709551616 = (n : Int) * 1 by omega, wrap_eq, if_pos (by omega)]
    omega
theorem beN_snoc (l : List UInt8) (c : UInt8) : beN (l ++ [c]) = beN l * 256 + c.toNat := by simp [beN]
theorem fold_lt : ∀ (l : List UInt8) (n : Nat), l.foldl (fun n c => n * 256 + c.toNat) n < (n + 1) * 256 ^ l.length
  | [], n => by simp
  | c :: l, n => by
    have h := fold_lt l (n * 256 + c.toNat)
    have hc := UInt8.toNat_lt c
    have h2 : (n * 256 + c.toNat + 1) * 256 ^ l.length ≤ (n + 1) * 256 * 256 ^ l.length := Nat.mul_le_mul_right _ (by omega)
    show List.foldl _ (n * 256 + c.toNat) l < (n + 1) * 256 ^ (l.length + 1)
    rw [Nat.pow_succ, Nat.mul_comm (256 ^ l.length) 256, ← Nat.mul_assoc]
    omega
theorem beN_lt (l : List UInt8) : beN l < 256 ^ l.length := by
  have h := fold_lt l 0
  rw [Nat.zero_add, Nat.one_mul] at h
  exact h
theorem fixed_c (d : Dir) (ub : Nat) (s : List UInt8) (a : Nat) (out : Option Nat) (len cap : Nat) (hz0 : sz d.letter ≠ 0) (ha : a ≤ s.length) (hs : s.length ≤ 1000000) :
    SpecH Tryd.prog 85 [.c (.v (.pointer (some ⟨ub, 0, none⟩))), .c (.v (dirV d))] [unE ub s a out len cap]
      (RetG (NumOk (rdNum d (s.drop a)) a s.length) numV fun i => [unE ub s i.2.2 out len cap]) := by
  refine ownC hm Tryd.func85 (by kernel_rfl) rfl rfl (fun _ _ => okHB_eq rfl) (fun _ _ => Nat.le_refl _) ?_
  have h8 := sz_le8 d.letter
  have hrd : rdNum d (s.drop a) = if s.length - a < sz d.letter then .error 14 else match whl d ((s.drop a).take (sz d.letter)) with | .ok n => .ok (n, sz d.letter) | .error e => .error e := by
    unfold rdNum
    rw [if_neg (fun h => hz0 (by rw [show d.letter = 119 by simpa using h]; rfl)), if_neg (fun h => hz0 (by rw [show d.letter = 85 by simpa using h]; rfl)), List.length_drop]
    rfl
  ((conv => whnf); (repeat ((first | refine BoxN.own ?_ | refine RwN.own ?_ | refine VrN.norm (wrap_i64 (by omega)) ?_ | refine VrN.keep ?_ | refine DrawN.calm (by decide +kernel) ?_ | refine Nd.mk (by decide +kernel) ?_ | refine Nd.mk (by omega) ?_ | (refine Nd.mk ?_ ?_; focus ((repeat' (first | exact trivial | exact wkE_refl _ | refine And.intro ?_ ?_)); done)) | refine RdN.intro _ rfl (by rfl) ?_); (conv => whnf))))
  refine callQ (left_c ub s a out len cap ha hs _ (fun w hw => hw.1)) ?_
  ((conv => whnf); (repeat ((first | refine BoxN.own ?_ | refine RwN.own ?_ | refine VrN.norm (wrap_i64 (by omega)) ?_ | refine VrN.keep ?_ | refine DrawN.calm (by decide +kernel) ?_ | refine Nd.mk (by decide +kernel) ?_ | refine Nd.mk (by omega) ?_ | (refine Nd.mk ?_ ?_; focus ((repeat' (first | exact trivial | exact wkE_refl _ | refine And.intro ?_ ?_)); done)) | refine RdN.intro _ rfl (by rfl) ?_); (conv => whnf))))
  refine callQ (bytes_c d _) ?_
  ((conv => whnf); (repeat ((first | refine BoxN.own ?_ | refine RwN.own ?_ | refine VrN.norm (wrap_i64 (by omega)) ?_ | refine VrN.keep ?_ | refine DrawN.calm (by decide +kernel) ?_ | refine Nd.mk (by decide +kernel) ?_ | refine Nd.mk (by omega) ?_ | (refine Nd.mk ?_ ?_; focus ((repeat' (first | exact trivial | exact wkE_refl _ | refine And.intro ?_ ?_)); done)) | refine RdN.intro _ rfl (by rfl) ?_); (conv => whnf))))
  refine brd_dec (fun h1 => ?_) (fun h1 => ?_)
  · rw [if_pos (by omega)] at hrd
    ((conv => whnf); (repeat ((first | refine BoxN.own ?_ | refine RwN.own ?_ | refine VrN.norm (wrap_i64 (by omega)) ?_ | refine VrN.keep ?_ | refine DrawN.calm (by decide +kernel) ?_ | refine Nd.mk (by decide +kernel) ?_ | refine Nd.mk (by omega) ?_ | (refine Nd.mk ?_ ?_; focus ((repeat' (first | exact trivial | exact wkE_refl _ | refine And.intro ?_ ?_)); done)) | refine RdN.intro _ rfl (by rfl) ?_); (conv => whnf))))
    exact ⟨(0, 14, a), by rw [hrd]; exact ⟨rfl, rfl, ha⟩, rfl, wkE_refl _, wkH_nil _⟩
  · rw [if_neg (by omega)] at hrd
    ((conv => whnf); (repeat ((first | refine BoxN.own ?_ | refine RwN.own ?_ | refine VrN.norm (wrap_i64 (by omega)) ?_ | refine VrN.keep ?_ | refine DrawN.calm (by decide +kernel) ?_ | refine Nd.mk (by decide +kernel) ?_ | refine Nd.mk (by omega) ?_ | (refine Nd.mk ?_ ?_; focus ((repeat' (first | exact trivial | exact wkE_refl _ | refine And.intro ?_ ?_)); done)) | refine RdN.intro _ rfl (by rfl) ?_); (conv => whnf))))
    refine call1 (bytes_c d _) ?_
    ((conv => whnf); (repeat ((first | refine BoxN.own ?_ | refine RwN.own ?_ | refine VrN.norm (wrap_i64 (by omega)) ?_ | refine VrN.keep ?_ | refine DrawN.calm (by decide +kernel) ?_ | refine Nd.mk (by decide +kernel) ?_ | refine Nd.mk (by omega) ?_ | (refine Nd.mk ?_ ?_; focus ((repeat' (first | exact trivial | exact wkE_refl _ | refine And.intro ?_ ?_)); done)) | refine RdN.intro _ rfl (by rfl) ?_); (conv => whnf))))
    refine callG (cut_c ub s a (sz d.letter) out len cap (by omega) hs) [0] rfl ⟨rfl, trivial⟩ rfl fun _ _ => ?_
    obtain ⟨L, hL⟩ : ∃ L, (s.drop a).take (sz d.letter) = L := ⟨_, rfl⟩
    have hLl : L.length = sz d.letter := by rw [← hL, List.length_take, List.length_drop]; omega
    rw [hL] at hrd ⊢
    ((conv => whnf); (repeat ((first | refine BoxN.own ?_ | refine RwN.own ?_ | refine VrN.norm (wrap_i64 (by omega)) ?_ | refine VrN.keep ?_ | refine DrawN.calm (by decide +kernel) ?_ | refine Nd.mk (by decide +kernel) ?_ | refine Nd.mk (by omega) ?_ | (refine Nd.mk ?_ ?_; focus ((repeat' (first | exact trivial | exact wkE_refl _ | refine And.intro ?_ ?_)); done)) | refine RdN.intro _ rfl (by rfl) ?_); (conv => whnf))))
    refine EffW.bytesOf (e := 5) L rfl Tryd.underlying9 (by kernel_rfl) (by kernel_rfl) rfl (by omega) fun lb lc h5 h6 => ?_
    ((conv => whnf); (repeat ((first | refine BoxN.own ?_ | refine RwN.own ?_ | refine VrN.norm (wrap_i64 (by omega)) ?_ | refine VrN.keep ?_ | refine DrawN.calm (by decide +kernel) ?_ | refine Nd.mk (by decide +kernel) ?_ | refine Nd.mk (by omega) ?_ | (refine Nd.mk ?_ ?_; focus ((repeat' (first | exact trivial | exact wkE_refl _ | refine And.intro ?_ ?_)); done)) | refine RdN.intro _ rfl (by rfl) ?_); (conv => whnf))))
    refine call1 (high_c d _) ?_
    have hwl : whl d L = if sg d.letter then .ok (if beN (if hi d = true then L else L.reverse) < 2 ^ (8 * L.length - 1) then ((beN (if hi d = true then L else L.reverse) : Nat) : Int) else ((beN (if hi d = true then L else L.reverse) : Nat) : Int) - 2 ^ (8 * L.length)) else if beN (if hi d = true then L else L.reverse) < 2 ^ 63 then .ok ((beN (if hi d = true then L else L.reverse) : Nat) : Int) else .error 5 := rfl
    cases hh : hi d with
    | true =>
      rw [hh] at hwl
      -- L: the bytes, greatest first; they lie in entry 2 at lb
      have hTl : (L).length = sz d.letter := by first | exact hLl | (rw [List.length_reverse]; exact hLl)
      ((conv => whnf); (repeat ((first | refine BoxN.own ?_ | refine RwN.own ?_ | refine VrN.norm (wrap_i64 (by omega)) ?_ | refine VrN.keep ?_ | refine DrawN.calm (by decide +kernel) ?_ | refine Nd.mk (by decide +kernel) ?_ | refine Nd.mk (by omega) ?_ | (refine Nd.mk ?_ ?_; focus ((repeat' (first | exact trivial | exact wkE_refl _ | refine And.intro ?_ ?_)); done)) | refine RdN.intro _ rfl (by rfl) ?_); (conv => whnf))))
      refine LoopN.intro Nat (fun j => j ≤ L.length) (fun j => mkS Tryd.f85.ntmps 0 [(0, .c (.v (.pointer (some ⟨ub, 0, none⟩)))), (3, .c (.lp 1 0)), (7, .c (.v (.int .u64 ((beN ((L).take j) : Nat) : Int)))), (26, .c (.v (.slice (some ⟨lb, 0, none⟩) L.length lc))), (27, .c (.v (.int .i64 (L.length : Int)))), (28, .c (.v (.int .i64 (j : Int))))])
        (fun _ => [unE ub s (a + sz d.letter) out len cap, .blk 57 [.v (.int .u8 (d.letter.toNat : Int)), .v (.bool d.big), .v (.int .i64 d.count)], own (L) lb lc]) (fun j => L.length - j) [] rfl
        (fun _ => rfl) (fun _ => rfl) (fun _ _ => okHB_eq rfl) ⟨0, Nat.zero_le _, ?_, ?_⟩ ?_
      · (repeat' (first | exact trivial | refine And.intro (by with_reducible rfl) ?_ | (with_reducible exact wkC_refl _) | (with_reducible exact wkCs_refl _) | refine And.intro ?_ ?_))
        all_goals rfl
      · exact ⟨wkE_refl _, wkE_refl _, wkE_refl _, wkH_nil _⟩
      intro j hj
      ((conv => whnf); (repeat ((first | refine BoxN.own ?_ | refine RwN.own ?_ | refine VrN.norm (wrap_i64 (by omega)) ?_ | refine VrN.keep ?_ | refine DrawN.calm (by decide +kernel) ?_ | refine Nd.mk (by decide +kernel) ?_ | refine Nd.mk (by omega) ?_ | (refine Nd.mk ?_ ?_; focus ((repeat' (first | exact trivial | exact wkE_refl _ | refine And.intro ?_ ?_)); done)) | refine RdN.intro _ rfl (by rfl) ?_); (conv => whnf))))
      refine brd_dec (fun h1 => ?_) (fun h1 => ?_)
      · obtain ⟨c, hc⟩ : ∃ c, (L)[j]? = some c := ⟨_, List.getElem?_eq_getElem (by omega)⟩
        have hsn : (L).take (j + 1) = (L).take j ++ [c] := Pack.take_snoc hc
        have hbj : beN ((L).take j) < 72057594037927936 := by
          have h2 := beN_lt ((L).take j)
          rw [List.length_take, Nat.min_eq_left (by omega)] at h2
          exact Nat.lt_of_lt_of_le h2 (Nat.pow_le_pow_right (by decide) (show j ≤ 7 by omega))
        have hcl := UInt8.toNat_lt c
        ((conv => whnf); (repeat ((first | refine BoxN.own ?_ | refine RwN.own ?_ | refine VrN.norm (wrap_i64 (by omega)) ?_ | refine VrN.keep ?_ | refine DrawN.calm (by decide +kernel) ?_ | refine Nd.mk (by decide +kernel) ?_ | refine Nd.mk (by omega) ?_ | (refine Nd.mk ?_ ?_; focus ((repeat' (first | exact trivial | exact wkE_refl _ | refine And.intro ?_ ?_)); done)) | refine RdN.intro _ rfl (by rfl) ?_); (conv => whnf))))
        refine Nd.mk ⟨rfl, by omega, by omega⟩ ?_
        ((conv => whnf); (repeat ((first | refine BoxN.own ?_ | refine RwN.own ?_ | refine VrN.norm (wrap_i64 (by omega)) ?_ | refine VrN.keep ?_ | refine DrawN.calm (by decide +kernel) ?_ | refine Nd.mk (by decide +kernel) ?_ | refine Nd.mk (by omega) ?_ | (refine Nd.mk ?_ ?_; focus ((repeat' (first | exact trivial | exact wkE_refl _ | refine And.intro ?_ ?_)); done)) | refine RdN.intro _ rfl (by rfl) ?_); (conv => whnf))))
        refine LdN.one (.int .u8 (c.toNat : Int)) rfl (fun w hw => hw.2.1) (by
          show (u8s (L))[(j : Int).toNat * 1]? = _
          rw [Nat.mul_one, Int.toNat_natCast]
          exact u8s_at hc) ?_
        ((conv => whnf); (repeat ((first | refine BoxN.own ?_ | refine RwN.own ?_ | refine VrN.norm (wrap_i64 (by omega)) ?_ | refine VrN.keep ?_ | refine DrawN.calm (by decide +kernel) ?_ | refine Nd.mk (by decide +kernel) ?_ | refine Nd.mk (by omega) ?_ | (refine Nd.mk ?_ ?_; focus ((repeat' (first | exact trivial | exact wkE_refl _ | refine And.intro ?_ ?_)); done)) | refine RdN.intro _ rfl (by rfl) ?_); (conv => whnf))))
        refine ⟨j + 1, by omega, by omega, ?_, by (repeat' (first | exact trivial | exact wkE_refl _ | refine And.intro ?_ ?_))⟩
        (repeat' (first | exact trivial | refine And.intro (by with_reducible rfl) ?_ | (with_reducible exact wkC_refl _) | (with_reducible exact wkCs_refl _) | refine And.intro ?_ ?_))
        all_goals first | rfl | exact av_int (by rw [wrap_i64 (by omega)]; omega) | exact av_int (by rw [step8 _ _ hbj hcl, hsn, beN_snoc])
      · have hj2 : j = L.length := by omega
        rw [show (L).take j = L from List.take_of_length_le (by omega)]
        have hbj : beN (L) < 256 ^ sz d.letter := by
          have h2 := beN_lt (L)
          rw [hTl] at h2
          exact h2
        ((conv => whnf); (repeat ((first | refine BoxN.own ?_ | refine RwN.own ?_ | refine VrN.norm (wrap_i64 (by omega)) ?_ | refine VrN.keep ?_ | refine DrawN.calm (by decide +kernel) ?_ | refine Nd.mk (by decide +kernel) ?_ | refine Nd.mk (by omega) ?_ | (refine Nd.mk ?_ ?_; focus ((repeat' (first | exact trivial | exact wkE_refl _ | refine And.intro ?_ ?_)); done)) | refine RdN.intro _ rfl (by rfl) ?_); (conv => whnf))))
        refine call1 (signed_c d _) ?_
        cases hsg : sg d.letter with
        | true =>
          rw [hsg] at hwl
          rcases sz4 hz0 with hk | hk | hk | hk
          · skip
            -- L: the bytes; 1: how many; 72057594037927936: 2^(64 - 8 1); 256: 256^1; 128: the half of that
            have hby := bytes_c d
            rw [hk] at hby
            rw [hk] at hbj hLl
            have hb2 : beN (L) < 256 := hbj
            have hv := sgn1 (beN (L)) hb2
            have hwv : whl d L = .ok (if beN (L) < 128 then ((beN (L) : Nat) : Int) else ((beN (L) : Nat) : Int) - 256) := by
              rw [hwl, hLl]
              first | (rw [if_pos rfl, if_pos rfl]; rfl) | (rw [if_pos rfl, if_neg (show ¬ false = true by decide)]; rfl)
            rw [hwv] at hrd
            clear hwl hwv
            ((conv => whnf); (repeat ((first | refine BoxN.own ?_ | refine RwN.own ?_ | refine VrN.norm (wrap_i64 (by omega)) ?_ | refine VrN.keep ?_ | refine DrawN.calm (by decide +kernel) ?_ | refine Nd.mk (by decide +kernel) ?_ | refine Nd.mk (by omega) ?_ | (refine Nd.mk ?_ ?_; focus ((repeat' (first | exact trivial | exact wkE_refl _ | refine And.intro ?_ ?_)); done)) | refine RdN.intro _ rfl (by rfl) ?_); (conv => whnf))))
            refine call1 (hby _) ?_
            ((conv => whnf); (repeat ((first | refine BoxN.own ?_ | refine RwN.own ?_ | refine VrN.norm (wrap_i64 (by omega)) ?_ | refine VrN.keep ?_ | refine DrawN.calm (by decide +kernel) ?_ | refine Nd.mk (by decide +kernel) ?_ | refine Nd.mk (by omega) ?_ | (refine Nd.mk ?_ ?_; focus ((repeat' (first | exact trivial | exact wkE_refl _ | refine And.intro ?_ ?_)); done)) | refine RdN.intro _ rfl (by rfl) ?_); (conv => whnf))))
            rw [hv]
            refine ⟨((if beN (L) < 128 then ((beN (L) : Nat) : Int) else ((beN (L) : Nat) : Int) - 256), 0, a + sz d.letter), by rw [hrd]; exact ⟨rfl, by omega⟩, rfl, wkE_refl _, wkH_nil _⟩
          · skip
            -- L: the bytes; 2: how many; 281474976710656: 2^(64 - 8 2); 65536: 256^2; 32768: the half of that
            have hby := bytes_c d
            rw [hk] at hby
            rw [hk] at hbj hLl
            have hb2 : beN (L) < 65536 := hbj
            have hv := sgn2 (beN (L)) hb2
            have hwv : whl d L = .ok (if beN (L) < 32768 then ((beN (L) : Nat) : Int) else ((beN (L) : Nat) : Int) - 65536) := by
              rw [hwl, hLl]
              first | (rw [if_pos rfl, if_pos rfl]; rfl) | (rw [if_pos rfl, if_neg (show ¬ false = true by decide)]; rfl)
            rw [hwv] at hrd
            clear hwl hwv
            ((conv => whnf); (repeat ((first | refine BoxN.own ?_ | refine RwN.own ?_ | refine VrN.norm (wrap_i64 (by omega)) ?_ | refine VrN.keep ?_ | refine DrawN.calm (by decide +kernel) ?_ | refine Nd.mk (by decide +kernel) ?_ | refine Nd.mk (by omega) ?_ | (refine Nd.mk ?_ ?_; focus ((repeat' (first | exact trivial | exact wkE_refl _ | refine And.intro ?_ ?_)); done)) | refine RdN.intro _ rfl (by rfl) ?_); (conv => whnf))))
            refine call1 (hby _) ?_
            ((conv => whnf); (repeat ((first | refine BoxN.own ?_ | refine RwN.own ?_ | refine VrN.norm (wrap_i64 (by omega)) ?_ | refine VrN.keep ?_ | refine DrawN.calm (by decide +kernel) ?_ | refine Nd.mk (by decide +kernel) ?_ | refine Nd.mk (by omega) ?_ | (refine Nd.mk ?_ ?_; focus ((repeat' (first | exact trivial | exact wkE_refl _ | refine And.intro ?_ ?_)); done)) | refine RdN.intro _ rfl (by rfl) ?_); (conv => whnf))))
            rw [hv]
            refine ⟨((if beN (L) < 32768 then ((beN (L) : Nat) : Int) else ((beN (L) : Nat) : Int) - 65536), 0, a + sz d.letter), by rw [hrd]; exact ⟨rfl, by omega⟩, rfl, wkE_refl _, wkH_nil _⟩
          · skip
            -- L: the bytes; 4: how many; 4294967296: 2^(64 - 8 4); 4294967296: 256^4; 2147483648: the half of that
            have hby := bytes_c d
            rw [hk] at hby
            rw [hk] at hbj hLl
            have hb2 : beN (L) < 4294967296 := hbj
            have hv := sgn4 (beN (L)) hb2
            have hwv : whl d L = .ok (if beN (L) < 2147483648 then ((beN (L) : Nat) : Int) else ((beN (L) : Nat) : Int) - 4294967296) := by
              rw [hwl, hLl]
              first | (rw [if_pos rfl, if_pos rfl]; rfl) | (rw [if_pos rfl, if_neg (show ¬ false = true by decide)]; rfl)
            rw [hwv] at hrd
            clear hwl hwv
            ((conv => whnf); (repeat ((first | refine BoxN.own ?_ | refine RwN.own ?_ | refine VrN.norm (wrap_i64 (by omega)) ?_ | refine VrN.keep ?_ | refine DrawN.calm (by decide +kernel) ?_ | refine Nd.mk (by decide +kernel) ?_ | refine Nd.mk (by omega) ?_ | (refine Nd.mk ?_ ?_; focus ((repeat' (first | exact trivial | exact wkE_refl _ | refine And.intro ?_ ?_)); done)) | refine RdN.intro _ rfl (by rfl) ?_); (conv => whnf))))
            refine call1 (hby _) ?_
            ((conv => whnf); (repeat ((first | refine BoxN.own ?_ | refine RwN.own ?_ | refine VrN.norm (wrap_i64 (by omega)) ?_ | refine VrN.keep ?_ | refine DrawN.calm (by decide +kernel) ?_ | refine Nd.mk (by decide +kernel) ?_ | refine Nd.mk (by omega) ?_ | (refine Nd.mk ?_ ?_; focus ((repeat' (first | exact trivial | exact wkE_refl _ | refine And.intro ?_ ?_)); done)) | refine RdN.intro _ rfl (by rfl) ?_); (conv => whnf))))
            rw [hv]
            refine ⟨((if beN (L) < 2147483648 then ((beN (L) : Nat) : Int) else ((beN (L) : Nat) : Int) - 4294967296), 0, a + sz d.letter), by rw [hrd]; exact ⟨rfl, by omega⟩, rfl, wkE_refl _, wkH_nil _⟩
          · skip
            -- L: the bytes; 8: how many; 1: 2^(64 - 8 8); 18446744073709551616: 256^8; 9223372036854775808: the half of that
            have hby := bytes_c d
            rw [hk] at hby
            rw [hk] at hbj hLl
            have hb2 : beN (L) < 18446744073709551616 := hbj
            have hv := sgn8 (beN (L)) hb2
            have hwv : whl d L = .ok (if beN (L) < 9223372036854775808 then ((beN (L) : Nat) : Int) else ((beN (L) : Nat) : Int) - 18446744073709551616) := by
              rw [hwl, hLl]
              first | (rw [if_pos rfl, if_pos rfl]; rfl) | (rw [if_pos rfl, if_neg (show ¬ false = true by decide)]; rfl)
            rw [hwv] at hrd
            clear hwl hwv
            ((conv => whnf); (repeat ((first | refine BoxN.own ?_ | refine RwN.own ?_ | refine VrN.norm (wrap_i64 (by omega)) ?_ | refine VrN.keep ?_ | refine DrawN.calm (by decide +kernel) ?_ | refine Nd.mk (by decide +kernel) ?_ | refine Nd.mk (by omega) ?_ | (refine Nd.mk ?_ ?_; focus ((repeat' (first | exact trivial | exact wkE_refl _ | refine And.intro ?_ ?_)); done)) | refine RdN.intro _ rfl (by rfl) ?_); (conv => whnf))))
            refine call1 (hby _) ?_
            ((conv => whnf); (repeat ((first | refine BoxN.own ?_ | refine RwN.own ?_ | refine VrN.norm (wrap_i64 (by omega)) ?_ | refine VrN.keep ?_ | refine DrawN.calm (by decide +kernel) ?_ | refine Nd.mk (by decide +kernel) ?_ | refine Nd.mk (by omega) ?_ | (refine Nd.mk ?_ ?_; focus ((repeat' (first | exact trivial | exact wkE_refl _ | refine And.intro ?_ ?_)); done)) | refine RdN.intro _ rfl (by rfl) ?_); (conv => whnf))))
            rw [hv]
            refine ⟨((if beN (L) < 9223372036854775808 then ((beN (L) : Nat) : Int) else ((beN (L) : Nat) : Int) - 18446744073709551616), 0, a + sz d.letter), by rw [hrd]; exact ⟨rfl, by omega⟩, rfl, wkE_refl _, wkH_nil _⟩
        | false =>
          rw [hsg] at hwl
          have hb2 : beN (L) < 18446744073709551616 := Nat.lt_of_lt_of_le hbj (Nat.pow_le_pow_right (by decide) h8)
          have hp : (2 : Int) ^ min (Int.toNat 63) IntKind.u64.bits = 9223372036854775808 := by decide +kernel
          have hdv : (((beN (L) : Nat) : Int)).fdiv (2 ^ min (Int.toNat 63) IntKind.u64.bits) = ((beN (L) / 9223372036854775808 : Nat) : Int) := by
            rw [hp, Int.fdiv_eq_ediv_of_nonneg _ (by decide)]
            rfl
          ((conv => whnf); (repeat ((first | refine BoxN.own ?_ | refine RwN.own ?_ | refine VrN.norm (wrap_i64 (by omega)) ?_ | refine VrN.keep ?_ | refine DrawN.calm (by decide +kernel) ?_ | refine Nd.mk (by decide +kernel) ?_ | refine Nd.mk (by omega) ?_ | (refine Nd.mk ?_ ?_; focus ((repeat' (first | exact trivial | exact wkE_refl _ | refine And.intro ?_ ?_)); done)) | refine RdN.intro _ rfl (by rfl) ?_); (conv => whnf))))
          rw [hdv]
          refine brd_dec (fun h2 => ?_) (fun h2 => ?_)
          · have hwv : whl d L = .error 5 := by
              rw [hwl]
              show (if beN (L) < 9223372036854775808 then _ else _) = _
              rw [if_neg (by omega)]
            rw [hwv] at hrd
            ((conv => whnf); (repeat ((first | refine BoxN.own ?_ | refine RwN.own ?_ | refine VrN.norm (wrap_i64 (by omega)) ?_ | refine VrN.keep ?_ | refine DrawN.calm (by decide +kernel) ?_ | refine Nd.mk (by decide +kernel) ?_ | refine Nd.mk (by omega) ?_ | (refine Nd.mk ?_ ?_; focus ((repeat' (first | exact trivial | exact wkE_refl _ | refine And.intro ?_ ?_)); done)) | refine RdN.intro _ rfl (by rfl) ?_); (conv => whnf))))
            exact ⟨(0, 5, a + sz d.letter), by rw [hrd]; exact ⟨rfl, rfl, by show a + sz d.letter ≤ s.length; omega⟩, rfl, wkE_refl _, wkH_nil _⟩
          · have hwv : whl d L = .ok ((beN (L) : Nat) : Int) := by
              rw [hwl]
              show (if beN (L) < 9223372036854775808 then _ else _) = _
              rw [if_pos (by omega)]
              rfl
            rw [hwv] at hrd
            ((conv => whnf); (repeat ((first | refine BoxN.own ?_ | refine RwN.own ?_ | refine VrN.norm (wrap_i64 (by omega)) ?_ | refine VrN.keep ?_ | refine DrawN.calm (by decide +kernel) ?_ | refine Nd.mk (by decide +kernel) ?_ | refine Nd.mk (by omega) ?_ | (refine Nd.mk ?_ ?_; focus ((repeat' (first | exact trivial | exact wkE_refl _ | refine And.intro ?_ ?_)); done)) | refine RdN.intro _ rfl (by rfl) ?_); (conv => whnf))))
            exact ⟨(((beN (L) : Nat) : Int), 0, a + sz d.letter), by rw [hrd]; exact ⟨rfl, by omega⟩, rfl, wkE_refl _, wkH_nil _⟩
    | false =>
      rw [hh] at hwl
      ((conv => whnf); (repeat ((first | refine BoxN.own ?_ | refine RwN.own ?_ | refine VrN.norm (wrap_i64 (by omega)) ?_ | refine VrN.keep ?_ | refine DrawN.calm (by decide +kernel) ?_ | refine Nd.mk (by decide +kernel) ?_ | refine Nd.mk (by omega) ?_ | (refine Nd.mk ?_ ?_; focus ((repeat' (first | exact trivial | exact wkE_refl _ | refine And.intro ?_ ?_)); done)) | refine RdN.intro _ rfl (by rfl) ?_); (conv => whnf))))
      refine callG (Reverse_c L lb lc (by omega)) [2] rfl ⟨rfl, trivial⟩ rfl fun _ _ => ?_
      -- L.reverse: the bytes, greatest first; they lie in entry 2 at lb
      have hTl : (L.reverse).length = sz d.letter := by first | exact hLl | (rw [List.length_reverse]; exact hLl)
      ((conv => whnf); (repeat ((first | refine BoxN.own ?_ | refine RwN.own ?_ | refine VrN.norm (wrap_i64 (by omega)) ?_ | refine VrN.keep ?_ | refine DrawN.calm (by decide +kernel) ?_ | refine Nd.mk (by decide +kernel) ?_ | refine Nd.mk (by omega) ?_ | (refine Nd.mk ?_ ?_; focus ((repeat' (first | exact trivial | exact wkE_refl _ | refine And.intro ?_ ?_)); done)) | refine RdN.intro _ rfl (by rfl) ?_); (conv => whnf))))
      refine LoopN.intro Nat (fun j => j ≤ L.length) (fun j => mkS Tryd.f85.ntmps 0 [(0, .c (.v (.pointer (some ⟨ub, 0, none⟩)))), (3, .c (.lp 1 0)), (7, .c (.v (.int .u64 ((beN ((L.reverse).take j) : Nat) : Int)))), (26, .c (.v (.slice (some ⟨lb, 0, none⟩) L.length lc))), (27, .c (.v (.int .i64 (L.length : Int)))), (28, .c (.v (.int .i64 (j : Int))))])
        (fun _ => [unE ub s (a + sz d.letter) out len cap, .blk 57 [.v (.int .u8 (d.letter.toNat : Int)), .v (.bool d.big), .v (.int .i64 d.count)], own (L.reverse) lb lc]) (fun j => L.length - j) [] rfl
        (fun _ => rfl) (fun _ => rfl) (fun _ _ => okHB_eq rfl) ⟨0, Nat.zero_le _, ?_, ?_⟩ ?_
      · (repeat' (first | exact trivial | refine And.intro (by with_reducible rfl) ?_ | (with_reducible exact wkC_refl _) | (with_reducible exact wkCs_refl _) | refine And.intro ?_ ?_))
        all_goals rfl
      · exact ⟨wkE_refl _, wkE_refl _, wkE_refl _, wkH_nil _⟩
      intro j hj
      ((conv => whnf); (repeat ((first | refine BoxN.own ?_ | refine RwN.own ?_ | refine VrN.norm (wrap_i64 (by omega)) ?_ | refine VrN.keep ?_ | refine DrawN.calm (by decide +kernel) ?_ | refine Nd.mk (by decide +kernel) ?_ | refine Nd.mk (by omega) ?_ | (refine Nd.mk ?_ ?_; focus ((repeat' (first | exact trivial | exact wkE_refl _ | refine And.intro ?_ ?_)); done)) | refine RdN.intro _ rfl (by rfl) ?_); (conv => whnf))))
      refine brd_dec (fun h1 => ?_) (fun h1 => ?_)
      · obtain ⟨c, hc⟩ : ∃ c, (L.reverse)[j]? = some c := ⟨_, List.getElem?_eq_getElem (by omega)⟩
        have hsn : (L.reverse).take (j + 1) = (L.reverse).take j ++ [c] := Pack.take_snoc hc
        have hbj : beN ((L.reverse).take j) < 72057594037927936 := by
          have h2 := beN_lt ((L.reverse).take j)
          rw [List.length_take, Nat.min_eq_left (by omega)] at h2
          exact Nat.lt_of_lt_of_le h2 (Nat.pow_le_pow_right (by decide) (show j ≤ 7 by omega))
        have hcl := UInt8.toNat_lt c
        ((conv => whnf); (repeat ((first | refine BoxN.own ?_ | refine RwN.own ?_ | refine VrN.norm (wrap_i64 (by omega)) ?_ | refine VrN.keep ?_ | refine DrawN.calm (by decide +kernel) ?_ | refine Nd.mk (by decide +kernel) ?_ | refine Nd.mk (by omega) ?_ | (refine Nd.mk ?_ ?_; focus ((repeat' (first | exact trivial | exact wkE_refl _ | refine And.intro ?_ ?_)); done)) | refine RdN.intro _ rfl (by rfl) ?_); (conv => whnf))))
        refine Nd.mk ⟨rfl, by omega, by omega⟩ ?_
        ((conv => whnf); (repeat ((first | refine BoxN.own ?_ | refine RwN.own ?_ | refine VrN.norm (wrap_i64 (by omega)) ?_ | refine VrN.keep ?_ | refine DrawN.calm (by decide +kernel) ?_ | refine Nd.mk (by decide +kernel) ?_ | refine Nd.mk (by omega) ?_ | (refine Nd.mk ?_ ?_; focus ((repeat' (first | exact trivial | exact wkE_refl _ | refine And.intro ?_ ?_)); done)) | refine RdN.intro _ rfl (by rfl) ?_); (conv => whnf))))
        refine LdN.one (.int .u8 (c.toNat : Int)) rfl (fun w hw => hw.2.1) (by
          show (u8s (L.reverse))[(j : Int).toNat * 1]? = _
          rw [Nat.mul_one, Int.toNat_natCast]
          exact u8s_at hc) ?_
        ((conv => whnf); (repeat ((first | refine BoxN.own ?_ | refine RwN.own ?_ | refine VrN.norm (wrap_i64 (by omega)) ?_ | refine VrN.keep ?_ | refine DrawN.calm (by decide +kernel) ?_ | refine Nd.mk (by decide +kernel) ?_ | refine Nd.mk (by omega) ?_ | (refine Nd.mk ?_ ?_; focus ((repeat' (first | exact trivial | exact wkE_refl _ | refine And.intro ?_ ?_)); done)) | refine RdN.intro _ rfl (by rfl) ?_); (conv => whnf))))
        refine ⟨j + 1, by omega, by omega, ?_, by (repeat' (first | exact trivial | exact wkE_refl _ | refine And.intro ?_ ?_))⟩
        (repeat' (first | exact trivial | refine And.intro (by with_reducible rfl) ?_ | (with_reducible exact wkC_refl _) | (with_reducible exact wkCs_refl _) | refine And.intro ?_ ?_))
        all_goals first | rfl | exact av_int (by rw [wrap_i64 (by omega)]; omega) | exact av_int (by rw [step8 _ _ hbj hcl, hsn, beN_snoc])
      · have hj2 : j = L.length := by omega
        rw [show (L.reverse).take j = L.reverse from List.take_of_length_le (by omega)]
        have hbj : beN (L.reverse) < 256 ^ sz d.letter := by
          have h2 := beN_lt (L.reverse)
          rw [hTl] at h2
          exact h2
        ((conv => whnf); (repeat ((first | refine BoxN.own ?_ | refine RwN.own ?_ | refine VrN.norm (wrap_i64 (by omega)) ?_ | refine VrN.keep ?_ | refine DrawN.calm (by decide +kernel) ?_ | refine Nd.mk (by decide +kernel) ?_ | refine Nd.mk (by omega) ?_ | (refine Nd.mk ?_ ?_; focus ((repeat' (first | exact trivial | exact wkE_refl _ | refine And.intro ?_ ?_)); done)) | refine RdN.intro _ rfl (by rfl) ?_); (conv => whnf))))
        refine call1 (signed_c d _) ?_
        cases hsg : sg d.letter with
        | true =>
          rw [hsg] at hwl
          rcases sz4 hz0 with hk | hk | hk | hk
          · skip
            -- L.reverse: the bytes; 1: how many; 72057594037927936: 2^(64 - 8 1); 256: 256^1; 128: the half of that
            have hby := bytes_c d
            rw [hk] at hby
            rw [hk] at hbj hLl
            have hb2 : beN (L.reverse) < 256 := hbj
            have hv := sgn1 (beN (L.reverse)) hb2
            have hwv : whl d L = .ok (if beN (L.reverse) < 128 then ((beN (L.reverse) : Nat) : Int) else ((beN (L.reverse) : Nat) : Int) - 256) := by
              rw [hwl, hLl]
              first | (rw [if_pos rfl, if_pos rfl]; rfl) | (rw [if_pos rfl, if_neg (show ¬ false = true by decide)]; rfl)
            rw [hwv] at hrd
            clear hwl hwv
            ((conv => whnf); (repeat ((first | refine BoxN.own ?_ | refine RwN.own ?_ | refine VrN.norm (wrap_i64 (by omega)) ?_ | refine VrN.keep ?_ | refine DrawN.calm (by decide +kernel) ?_ | refine Nd.mk (by decide +kernel) ?_ | refine Nd.mk (by omega) ?_ | (refine Nd.mk ?_ ?_; focus ((repeat' (first | exact trivial | exact wkE_refl _ | refine And.intro ?_ ?_)); done)) | refine RdN.intro _ rfl (by rfl) ?_); (conv => whnf))))
            refine call1 (hby _) ?_
            ((conv => whnf); (repeat ((first | refine BoxN.own ?_ | refine RwN.own ?_ | refine VrN.norm (wrap_i64 (by omega)) ?_ | refine VrN.keep ?_ | refine DrawN.calm (by decide +kernel) ?_ | refine Nd.mk (by decide +kernel) ?_ | refine Nd.mk (by omega) ?_ | (refine Nd.mk ?_ ?_; focus ((repeat' (first | exact trivial | exact wkE_refl _ | refine And.intro ?_ ?_)); done)) | refine RdN.intro _ rfl (by rfl) ?_); (conv => whnf))))
            rw [hv]
            refine ⟨((if beN (L.reverse) < 128 then ((beN (L.reverse) : Nat) : Int) else ((beN (L.reverse) : Nat) : Int) - 256), 0, a + sz d.letter), by rw [hrd]; exact ⟨rfl, by omega⟩, rfl, wkE_refl _, wkH_nil _⟩
          · skip
            -- L.reverse: the bytes; 2: how many; 281474976710656: 2^(64 - 8 2); 65536: 256^2; 32768: the half of that
            have hby := bytes_c d
            rw [hk] at hby
            rw [hk] at hbj hLl
            have hb2 : beN (L.reverse) < 65536 := hbj
            have hv := sgn2 (beN (L.reverse)) hb2
            have hwv : whl d L = .ok (if beN (L.reverse) < 32768 then ((beN (L.reverse) : Nat) : Int) else ((beN (L.reverse) : Nat) : Int) - 65536) := by
              rw [hwl, hLl]
              first | (rw [if_pos rfl, if_pos rfl]; rfl) | (rw [if_pos rfl, if_neg (show ¬ false = true by decide)]; rfl)
            rw [hwv] at hrd
            clear hwl hwv
            ((conv => whnf); (repeat ((first | refine BoxN.own ?_ | refine RwN.own ?_ | refine VrN.norm (wrap_i64 (by omega)) ?_ | refine VrN.keep ?_ | refine DrawN.calm (by decide +kernel) ?_ | refine Nd.mk (by decide +kernel) ?_ | refine Nd.mk (by omega) ?_ | (refine Nd.mk ?_ ?_; focus ((repeat' (first | exact trivial | exact wkE_refl _ | refine And.intro ?_ ?_)); done)) | refine RdN.intro _ rfl (by rfl) ?_); (conv => whnf))))
            refine call1 (hby _) ?_
            ((conv => whnf); (repeat ((first | refine BoxN.own ?_ | refine RwN.own ?_ | refine VrN.norm (wrap_i64 (by omega)) ?_ | refine VrN.keep ?_ | refine DrawN.calm (by decide +kernel) ?_ | refine Nd.mk (by decide +kernel) ?_ | refine Nd.mk (by omega) ?_ | (refine Nd.mk ?_ ?_; focus ((repeat' (first | exact trivial | exact wkE_refl _ | refine And.intro ?_ ?_)); done)) | refine RdN.intro _ rfl (by rfl) ?_); (conv => whnf))))
            rw [hv]
            refine ⟨((if beN (L.reverse) < 32768 then ((beN (L.reverse) : Nat) : Int) else ((beN (L.reverse) : Nat) : Int) - 65536), 0, a + sz d.letter), by rw [hrd]; exact ⟨rfl, by omega⟩, rfl, wkE_refl _, wkH_nil _⟩
          · skip
            -- L.reverse: the bytes; 4: how many; 4294967296: 2^(64 - 8 4); 4294967296: 256^4; 2147483648: the half of that
            have hby := bytes_c d
            rw [hk] at hby
            rw [hk] at hbj hLl
            have hb2 : beN (L.reverse) < 4294967296 := hbj
            have hv := sgn4 (beN (L.reverse)) hb2
            have hwv : whl d L = .ok (if beN (L.reverse) < 2147483648 then ((beN (L.reverse) : Nat) : Int) else ((beN (L.reverse) : Nat) : Int) - 4294967296) := by
              rw [hwl, hLl]
              first | (rw [if_pos rfl, if_pos rfl]; rfl) | (rw [if_pos rfl, if_neg (show ¬ false = true by decide)]; rfl)
            rw [hwv] at hrd
            clear hwl hwv
            ((conv => whnf); (repeat ((first | refine BoxN.own ?_ | refine RwN.own ?_ | refine VrN.norm (wrap_i64 (by omega)) ?_ | refine VrN.keep ?_ | refine DrawN.calm (by decide +kernel) ?_ | refine Nd.mk (by decide +kernel) ?_ | refine Nd.mk (by omega) ?_ | (refine Nd.mk ?_ ?_; focus ((repeat' (first | exact trivial | exact wkE_refl _ | refine And.intro ?_ ?_)); done)) | refine RdN.intro _ rfl (by rfl) ?_); (conv => whnf))))
            refine call1 (hby _) ?_
            ((conv => whnf); (repeat ((first | refine BoxN.own ?_ | refine RwN.own ?_ | refine VrN.norm (wrap_i64 (by omega)) ?_ | refine VrN.keep ?_ | refine DrawN.calm (by decide +kernel) ?_ | refine Nd.mk (by decide +kernel) ?_ | refine Nd.mk (by omega) ?_ | (refine Nd.mk ?_ ?_; focus ((repeat' (first | exact trivial | exact wkE_refl _ | refine And.intro ?_ ?_)); done)) | refine RdN.intro _ rfl (by rfl) ?_); (conv => whnf))))
            rw [hv]
            refine ⟨((if beN (L.reverse) < 2147483648 then ((beN (L.reverse) : Nat) : Int) else ((beN (L.reverse) : Nat) : Int) - 4294967296), 0, a + sz d.letter), by rw [hrd]; exact ⟨rfl, by omega⟩, rfl, wkE_refl _, wkH_nil _⟩
          · skip
            -- L.reverse: the bytes; 8: how many; 1: 2^(64 - 8 8); 18446744073709551616: 256^8; 9223372036854775808: the half of that
            have hby := bytes_c d
            rw [hk] at hby
            rw [hk] at hbj hLl
            have hb2 : beN (L.reverse) < 18446744073709551616 := hbj
            have hv := sgn8 (beN (L.reverse)) hb2
            have hwv : whl d L = .ok (if beN (L.reverse) < 9223372036854775808 then ((beN (L.reverse) : Nat) : Int) else ((beN (L.reverse) : Nat) : Int) - 18446744073709551616) := by
              rw [hwl, hLl]
              first | (rw [if_pos rfl, if_pos rfl]; rfl) | (rw [if_pos rfl, if_neg (show ¬ false = true by decide)]; rfl)
            rw [hwv] at hrd
            clear hwl hwv
            ((conv => whnf); (repeat ((first | refine BoxN.own ?_ | refine RwN.own ?_ | refine VrN.norm (wrap_i64 (by omega)) ?_ | refine VrN.keep ?_ | refine DrawN.calm (by decide +kernel) ?_ | refine Nd.mk (by decide +kernel) ?_ | refine Nd.mk (by omega) ?_ | (refine Nd.mk ?_ ?_; focus ((repeat' (first | exact trivial | exact wkE_refl _ | refine And.intro ?_ ?_)); done)) | refine RdN.intro _ rfl (by rfl) ?_); (conv => whnf))))
            refine call1 (hby _) ?_
            ((conv => whnf); (repeat ((first | refine BoxN.own ?_ | refine RwN.own ?_ | refine VrN.norm (wrap_i64 (by omega)) ?_ | refine VrN.keep ?_ | refine DrawN.calm (by decide +kernel) ?_ | refine Nd.mk (by decide +kernel) ?_ | refine Nd.mk (by omega) ?_ | (refine Nd.mk ?_ ?_; focus ((repeat' (first | exact trivial | exact wkE_refl _ | refine And.intro ?_ ?_)); done)) | refine RdN.intro _ rfl (by rfl) ?_); (conv => whnf))))
            rw [hv]
            refine ⟨((if beN (L.reverse) < 9223372036854775808 then ((beN (L.reverse) : Nat) : Int) else ((beN (L.reverse) : Nat) : Int) - 18446744073709551616), 0, a + sz d.letter), by rw [hrd]; exact ⟨rfl, by omega⟩, rfl, wkE_refl _, wkH_nil _⟩
        | false =>
          rw [hsg] at hwl
          have hb2 : beN (L.reverse) < 18446744073709551616 := Nat.lt_of_lt_of_le hbj (Nat.pow_le_pow_right (by decide) h8)
          have hp : (2 : Int) ^ min (Int.toNat 63) IntKind.u64.bits = 9223372036854775808 := by decide +kernel
          have hdv : (((beN (L.reverse) : Nat) : Int)).fdiv (2 ^ min (Int.toNat 63) IntKind.u64.bits) = ((beN (L.reverse) / 9223372036854775808 : Nat) : Int) := by
            rw [hp, Int.fdiv_eq_ediv_of_nonneg _ (by decide)]
            rfl
          ((conv => whnf); (repeat ((first | refine BoxN.own ?_ | refine RwN.own ?_ | refine VrN.norm (wrap_i64 (by omega)) ?_ | refine VrN.keep ?_ | refine DrawN.calm (by decide +kernel) ?_ | refine Nd.mk (by decide +kernel) ?_ | refine Nd.mk (by omega) ?_ | (refine Nd.mk ?_ ?_; focus ((repeat' (first | exact trivial | exact wkE_refl _ | refine And.intro ?_ ?_)); done)) | refine RdN.intro _ rfl (by rfl) ?_); (conv => whnf))))
          rw [hdv]
          refine brd_dec (fun h2 => ?_) (fun h2 => ?_)
          · have hwv : whl d L = .error 5 := by
              rw [hwl]
              show (if beN (L.reverse) < 9223372036854775808 then _ else _) = _
              rw [if_neg (by omega)]
            rw [hwv] at hrd
            ((conv => whnf); (repeat ((first | refine BoxN.own ?_ | refine RwN.own ?_ | refine VrN.norm (wrap_i64 (by omega)) ?_ | refine VrN.keep ?_ | refine DrawN.calm (by decide +kernel) ?_ | refine Nd.mk (by decide +kernel) ?_ | refine Nd.mk (by omega) ?_ | (refine Nd.mk ?_ ?_; focus ((repeat' (first | exact trivial | exact wkE_refl _ | refine And.intro ?_ ?_)); done)) | refine RdN.intro _ rfl (by rfl) ?_); (conv => whnf))))
            exact ⟨(0, 5, a + sz d.letter), by rw [hrd]; exact ⟨rfl, rfl, by show a + sz d.letter ≤ s.length; omega⟩, rfl, wkE_refl _, wkH_nil _⟩
          · have hwv : whl d L = .ok ((beN (L.reverse) : Nat) : Int) := by
              rw [hwl]
              show (if beN (L.reverse) < 9223372036854775808 then _ else _) = _
              rw [if_pos (by omega)]
              rfl
            rw [hwv] at hrd
            ((conv => whnf); (repeat ((first | refine BoxN.own ?_ | refine RwN.own ?_ | refine VrN.norm (wrap_i64 (by omega)) ?_ | refine VrN.keep ?_ | refine DrawN.calm (by decide +kernel) ?_ | refine Nd.mk (by decide +kernel) ?_ | refine Nd.mk (by omega) ?_ | (refine Nd.mk ?_ ?_; focus ((repeat' (first | exact trivial | exact wkE_refl _ | refine And.intro ?_ ?_)); done)) | refine RdN.intro _ rfl (by rfl) ?_); (conv => whnf))))
            exact ⟨(((beN (L.reverse) : Nat) : Int), 0, a + sz d.letter), by rw [hrd]; exact ⟨rfl, by omega⟩, rfl, wkE_refl _, wkH_nil _⟩
end Go.Proofs.YtjkchonpnocffaaDoor

/-
  Contract: a number is read (program).
-/
namespace Go.Proofs.YtjkchonpnocffaaDoor
open Go.AX Go.RowKit Go.Pack
set_option maxRecDepth 20000

theorem bs_get (s : List UInt8) (i : Nat) : ((bs s).get! i).toNat = (s[i]?.map UInt8.toNat).getD 0 := by
  unfold bs ByteArray.get!
  simp only [List.getElem!_toArray, List.getElem!_eq_getElem?_getD]
  cases s[i]? <;> rfl
theorem cont_iff (c : UInt8) : cont c = true ↔ c.toNat / 64 = 2 := by
  unfold cont
  rw [Bool.and_eq_true, decide_eq_true_eq, decide_eq_true_eq, UInt8.le_iff_toNat_le, UInt8.lt_iff_toNat_lt]
  show 128 ≤ c.toNat ∧ c.toNat < 192 ↔ _
  omega
theorem u8_lt (a : UInt8) (n : Nat) (h : n < 256) : a < UInt8.ofNat n ↔ a.toNat < n := by
  rw [UInt8.lt_iff_toNat_lt, UInt8.toNat_ofNat']
  rw [Nat.mod_eq_of_lt (by omega)]
theorem u8_le (a : UInt8) (n : Nat) (h : n < 256) : UInt8.ofNat n ≤ a ↔ n ≤ a.toNat := by
  rw [UInt8.le_iff_toNat_le, UInt8.toNat_ofNat']
  rw [Nat.mod_eq_of_lt (by omega)]
def orErr : Option (Nat × Nat) → Nat × Nat
  | some x => x
  | none => (65533, 1)
theorem orErr_ite (c : Prop) [Decidable c] (x y : Option (Nat × Nat)) : orErr (if c then x else y) = if c then orErr x else orErr y := by split <;> rfl
theorem orErr_some (x : Nat × Nat) : orErr (some x) = x := rfl
theorem orErr_none : orErr none = (65533, 1) := rfl
theorem dec1 (a : UInt8) : Lib.decodeGo (bs [a]) = orErr (runeD [a]) := by
  unfold Lib.decodeGo
  rw [if_neg (by rw [bs_size]; simp), Lib.decode_at, bs_get, bs_get, bs_get, bs_get, bs_size]
  have ha := UInt8.toNat_lt a
  have e1 : (a < 128) = (a.toNat < 128) := propext (u8_lt a 128 (by decide))
  have e2 : (192 ≤ a) = (192 ≤ a.toNat) := propext (u8_le a 192 (by decide))
  have e3 : (a < 224) = (a.toNat < 224) := propext (u8_lt a 224 (by decide))
  have e4 : (224 ≤ a) = (224 ≤ a.toNat) := propext (u8_le a 224 (by decide))
  have e5 : (a < 240) = (a.toNat < 240) := propext (u8_lt a 240 (by decide))
  have e6 : (240 ≤ a) = (240 ≤ a.toNat) := propext (u8_le a 240 (by decide))
  have e7 : (a < 248) = (a.toNat < 248) := propext (u8_lt a 248 (by decide))
  simp only [runeD, Lib.decodeN, orErr_ite, orErr_some, orErr_none, e1, e2, e3, e4, e5, e6, e7, Bool.and_eq_true, decide_eq_true_eq, List.length_cons, List.getElem?_cons_zero, List.getElem?_cons_succ, List.length_nil, List.getElem?_nil, Option.map, Option.getD]
  clear e1 e2 e3 e4 e5 e6 e7
  generalize a.toNat = A at *
  rcases (by omega : A < 128 ∨ (128 ≤ A ∧ A < 192) ∨ (192 ≤ A ∧ A < 224) ∨ (224 ≤ A ∧ A < 240) ∨ (240 ≤ A ∧ A < 248) ∨ 248 ≤ A) with h | h | h | h | h | h
  all_goals simp (disch := omega) only [if_pos, if_neg]
  all_goals (repeat' split)
  all_goals first | rfl | (exfalso; omega) | (congr 1; omega)
theorem dec2 (a b : UInt8) : Lib.decodeGo (bs [a, b]) = orErr (runeD [a, b]) := by
  unfold Lib.decodeGo
  rw [if_neg (by rw [bs_size]; simp), Lib.decode_at, bs_get, bs_get, bs_get, bs_get, bs_size]
  have ha := UInt8.toNat_lt a
  have e1 : (a < 128) = (a.toNat < 128) := propext (u8_lt a 128 (by decide))
  have e2 : (192 ≤ a) = (192 ≤ a.toNat) := propext (u8_le a 192 (by decide))
  have e3 : (a < 224) = (a.toNat < 224) := propext (u8_lt a 224 (by decide))
  have e4 : (224 ≤ a) = (224 ≤ a.toNat) := propext (u8_le a 224 (by decide))
  have e5 : (a < 240) = (a.toNat < 240) := propext (u8_lt a 240 (by decide))
  have e6 : (240 ≤ a) = (240 ≤ a.toNat) := propext (u8_le a 240 (by decide))
  have e7 : (a < 248) = (a.toNat < 248) := propext (u8_lt a 248 (by decide))
  have hb := UInt8.toNat_lt b
  simp only [runeD, Lib.decodeN, orErr_ite, orErr_some, orErr_none, e1, e2, e3, e4, e5, e6, e7, Bool.and_eq_true, decide_eq_true_eq, cont_iff, List.length_cons, List.getElem?_cons_zero, List.getElem?_cons_succ, List.length_nil, List.getElem?_nil, Option.map, Option.getD]
  clear e1 e2 e3 e4 e5 e6 e7
  generalize a.toNat = A at *
  rcases (by omega : A < 128 ∨ (128 ≤ A ∧ A < 192) ∨ (192 ≤ A ∧ A < 224) ∨ (224 ≤ A ∧ A < 240) ∨ (240 ≤ A ∧ A < 248) ∨ 248 ≤ A) with h | h | h | h | h | h
  all_goals simp (disch := omega) only [if_pos, if_neg]
  all_goals (repeat' split)
  all_goals first | rfl | (exfalso; omega) | (congr 1; omega)
theorem dec3 (a b c : UInt8) : Lib.decodeGo (bs [a, b, c]) = orErr (runeD [a, b, c]) := by
  unfold Lib.decodeGo
  rw [if_neg (by rw [bs_size]; simp), Lib.decode_at, bs_get, bs_get, bs_get, bs_get, bs_size]
  have ha := UInt8.toNat_lt a
  have e1 : (a < 128) = (a.toNat < 128) := propext (u8_lt a 128 (by decide))
  have e2 : (192 ≤ a) = (192 ≤ a.toNat) := propext (u8_le a 192 (by decide))
  have e3 : (a < 224) = (a.toNat < 224) := propext (u8_lt a 224 (by decide))
  have e4 : (224 ≤ a) = (224 ≤ a.toNat) := propext (u8_le a 224 (by decide))
  have e5 : (a < 240) = (a.toNat < 240) := propext (u8_lt a 240 (by decide))
  have e6 : (240 ≤ a) = (240 ≤ a.toNat) := propext (u8_le a 240 (by decide))
  have e7 : (a < 248) = (a.toNat < 248) := propext (u8_lt a 248 (by decide))
  have hb := UInt8.toNat_lt b
  have hc := UInt8.toNat_lt c
  simp only [runeD, Lib.decodeN, orErr_ite, orErr_some, orErr_none, e1, e2, e3, e4, e5, e6, e7, Bool.and_eq_true, Bool.or_eq_true, decide_eq_true_eq, cont_iff, List.length_cons, List.getElem?_cons_zero, List.getElem?_cons_succ, List.length_nil, List.getElem?_nil, Option.map, Option.getD]
  clear e1 e2 e3 e4 e5 e6 e7
  generalize a.toNat = A at *
  rcases (by omega : A < 128 ∨ (128 ≤ A ∧ A < 192) ∨ (192 ≤ A ∧ A < 224) ∨ (224 ≤ A ∧ A < 240) ∨ (240 ≤ A ∧ A < 248) ∨ 248 ≤ A) with h | h | h | h | h | h
  all_goals simp (disch := omega) only [if_pos, if_neg]
  all_goals (repeat' split)
  all_goals first | rfl | (exfalso; omega) | (congr 1; omega)
theorem dec4 (a b c d : UInt8) (r : List UInt8) : Lib.decodeGo (bs (a :: b :: c :: d :: r)) = orErr (runeD (a :: b :: c :: d :: r)) := by
  unfold Lib.decodeGo
  rw [if_neg (by rw [bs_size]; simp), Lib.decode_at, bs_get, bs_get, bs_get, bs_get, bs_size]
  have ha := UInt8.toNat_lt a
  have e1 : (a < 128) = (a.toNat < 128) := propext (u8_lt a 128 (by decide))
  have e2 : (192 ≤ a) = (192 ≤ a.toNat) := propext (u8_le a 192 (by decide))
  have e3 : (a < 224) = (a.toNat < 224) := propext (u8_lt a 224 (by decide))
  have e4 : (224 ≤ a) = (224 ≤ a.toNat) := propext (u8_le a 224 (by decide))
  have e5 : (a < 240) = (a.toNat < 240) := propext (u8_lt a 240 (by decide))
  have e6 : (240 ≤ a) = (240 ≤ a.toNat) := propext (u8_le a 240 (by decide))
  have e7 : (a < 248) = (a.toNat < 248) := propext (u8_lt a 248 (by decide))
  have hb := UInt8.toNat_lt b
  have hc := UInt8.toNat_lt c
  have hd := UInt8.toNat_lt d
  simp only [runeD, Lib.decodeN, orErr_ite, orErr_some, orErr_none, e1, e2, e3, e4, e5, e6, e7, Bool.and_eq_true, Bool.or_eq_true, decide_eq_true_eq, cont_iff, List.length_cons, List.getElem?_cons_zero, List.getElem?_cons_succ, Option.map, Option.getD]
  clear e1 e2 e3 e4 e5 e6 e7
  generalize a.toNat = A at *
  rcases (by omega : A < 128 ∨ (128 ≤ A ∧ A < 192) ∨ (192 ≤ A ∧ A < 224) ∨ (224 ≤ A ∧ A < 240) ∨ (240 ≤ A ∧ A < 248) ∨ 248 ≤ A) with h | h | h | h | h | h
  all_goals simp (disch := omega) only [if_pos, if_neg]
  all_goals (repeat' split)
  all_goals first | rfl | (exfalso; omega) | (congr 1; omega)
theorem dec_eq (a : UInt8) (r : List UInt8) : Lib.decodeGo (bs (a :: r)) = orErr (runeD (a :: r)) := by
  rcases r with _ | ⟨b, _ | ⟨c, _ | ⟨d, r⟩⟩⟩
  · exact dec1 a
  · exact dec2 a b
  · exact dec3 a b c
  · exact dec4 a b c d r
end Go.Proofs.YtjkchonpnocffaaDoor

/-
  Contract: a number is read (program).
-/
namespace Go.Proofs.YtjkchonpnocffaaDoor
open Go.AX Go.RowKit Go.Pack
set_option maxRecDepth 20000

/-- What is known of the world: a number of bytealg's, the tables of utf8. -/
def UtfF (w : World) : Prop := MaxF w ∧ Lib.Utf8Tabs 1 2 w
theorem Decode_c (s : List UInt8) : ∀ H, (∀ w, Facts H w → UtfF w) → SpecH Tryd.prog 84 (pvs [.string (bs s)]) H (Ret (.tuple #[.int .i32 ((Lib.decodeGo (bs s)).1 : Int), .int .i64 ((Lib.decodeGo (bs s)).2 : Int)]) H) := fun H hF =>
  SpecH.rawP (R := fun r => r = .tuple #[.int .i32 ((Lib.decodeGo (bs s)).1 : Int), .int .i64 ((Lib.decodeGo (bs s)).2 : Int)]) (callOk Tryd.func84 (by kernel_rfl) rfl) (fun w hw => (Tryd.utf8_DecodeRuneInString (bs s) w (hF w hw).2).mono fun e w' ⟨he, bel⟩ => ⟨_, he, rfl, bel⟩) fun r hr => by subst hr; exact ⟨rfl, rfl⟩
theorem runeD_le {s : List UInt8} {n k : Nat} (h : runeD s = some (n, k)) : 1 ≤ k ∧ k ≤ s.length ∧ n ≤ 1114111 ∧ (n = 65533 → 1 < k) := by
  cases s with
  | nil => cases h
  | cons a r =>
    unfold runeD at h
    simp only at h
    have ha := UInt8.toNat_lt a
    split at h
    · rename_i h1
      have h2 : a.toNat < 128 := UInt8.lt_iff_toNat_lt.1 h1
      cases h
      exact ⟨Nat.le_refl _, by simp, by omega, by omega⟩
    split at h
    · rename_i h1
      rw [Bool.and_eq_true, decide_eq_true_eq, decide_eq_true_eq] at h1
      have h3 : a.toNat < 224 := UInt8.lt_iff_toNat_lt.1 h1.2
      split at h
      · rename_i b r2
        have hb := UInt8.toNat_lt b
        split at h
        · cases h
          exact ⟨by omega, by simp, by omega, by omega⟩
        · cases h
      · cases h
    split at h
    · rename_i h1
      rw [Bool.and_eq_true, decide_eq_true_eq, decide_eq_true_eq] at h1
      have h3 : a.toNat < 240 := UInt8.lt_iff_toNat_lt.1 h1.2
      split at h
      · rename_i b c r2
        have hb := UInt8.toNat_lt b
        have hc := UInt8.toNat_lt c
        split at h
        · cases h
          exact ⟨by omega, by simp, by omega, by omega⟩
        · cases h
      · cases h
    split at h
    · split at h
      · split at h
        · rename_i h9
          simp only [Bool.and_eq_true, decide_eq_true_eq] at h9
          cases h
          exact ⟨by omega, by simp, h9.2, by omega⟩
        · cases h
      · cases h
    · cases h
theorem number_u (d : Dir) (ub : Nat) (s : List UInt8) (a : Nat) (out : Option Nat) (len cap : Nat) (hl : letters.contains d.letter = true) (hst : isStr d.letter = false) (hp : isPl d.letter = false) (ha : a ≤ s.length) (hs : s.length ≤ 1000000) :
    SpecH Tryd.prog 58 [.c (.v (.pointer (some ⟨ub, 0, none⟩))), .c (.v (dirV d))] [.fact UtfF, unE ub s a out len cap]
      (RetG (NumOk (rdNum d (s.drop a)) a s.length) numV fun i => [.fact UtfF, unE ub s i.2.2 out len cap]) := by
  refine ownC hm Tryd.func58 (by kernel_rfl) rfl rfl (fun _ _ => okHB_eq rfl) (fun _ _ => Nat.le_refl _) ?_
  have h119 : ((d.letter.toNat : Int) == 119) = (d.letter == 119) := u8_eq (n := 119) (by decide)
  have h85 : ((d.letter.toNat : Int) == 85) = (d.letter == 85) := u8_eq (n := 85) (by decide)
  have hzs := bs_size s
  ((conv => whnf); (repeat ((first | refine BoxN.own ?_ | refine RwN.own ?_ | refine VrN.norm (wrap_i64 (by omega)) ?_ | refine VrN.keep ?_ | refine DrawN.calm (by decide +kernel) ?_ | refine Nd.mk (by decide +kernel) ?_ | refine Nd.mk (by omega) ?_ | (refine Nd.mk ?_ ?_; focus ((repeat' (first | exact trivial | exact wkE_refl _ | refine And.intro ?_ ?_)); done)) | refine RdN.intro _ rfl (by rfl) ?_); (conv => whnf))))
  rw [h119]
  cases e1 : d.letter == 119 with
  | true =>
    have hrd : rdNum d (s.drop a) = grp 9 0 0 (s.drop a) := by unfold rdNum; rw [if_pos e1]
    ((conv => whnf); (repeat ((first | refine BoxN.own ?_ | refine RwN.own ?_ | refine VrN.norm (wrap_i64 (by omega)) ?_ | refine VrN.keep ?_ | refine DrawN.calm (by decide +kernel) ?_ | refine Nd.mk (by decide +kernel) ?_ | refine Nd.mk (by omega) ?_ | (refine Nd.mk ?_ ?_; focus ((repeat' (first | exact trivial | exact wkE_refl _ | refine And.intro ?_ ?_)); done)) | refine RdN.intro _ rfl (by rfl) ?_); (conv => whnf))))
    refine callG (group_c ub s a out len cap ha hs) [1] rfl ⟨rfl, trivial⟩ rfl ?_
    intro i hi
    ((conv => whnf); (repeat ((first | refine BoxN.own ?_ | refine RwN.own ?_ | refine VrN.norm (wrap_i64 (by omega)) ?_ | refine VrN.keep ?_ | refine DrawN.calm (by decide +kernel) ?_ | refine Nd.mk (by decide +kernel) ?_ | refine Nd.mk (by omega) ?_ | (refine Nd.mk ?_ ?_; focus ((repeat' (first | exact trivial | exact wkE_refl _ | refine And.intro ?_ ?_)); done)) | refine RdN.intro _ rfl (by rfl) ?_); (conv => whnf))))
    exact ⟨i, by rw [hrd]; exact hi, rfl, wkE_refl _, wkE_refl _, wkH_nil _⟩
  | false =>
    ((conv => whnf); (repeat ((first | refine BoxN.own ?_ | refine RwN.own ?_ | refine VrN.norm (wrap_i64 (by omega)) ?_ | refine VrN.keep ?_ | refine DrawN.calm (by decide +kernel) ?_ | refine Nd.mk (by decide +kernel) ?_ | refine Nd.mk (by omega) ?_ | (refine Nd.mk ?_ ?_; focus ((repeat' (first | exact trivial | exact wkE_refl _ | refine And.intro ?_ ?_)); done)) | refine RdN.intro _ rfl (by rfl) ?_); (conv => whnf))))
    rw [h85]
    cases e2 : d.letter == 85 with
    | true =>
      have hrd : rdNum d (s.drop a) = if (s.drop a).isEmpty then .error 14 else match runeD (s.drop a) with | some (n, k) => .ok ((n : Int), k) | none => .error 1 := by unfold rdNum; rw [if_neg (by rw [e1]; decide), if_pos e2]; rfl
      ((conv => whnf); (repeat ((first | refine BoxN.own ?_ | refine RwN.own ?_ | refine VrN.norm (wrap_i64 (by omega)) ?_ | refine VrN.keep ?_ | refine DrawN.calm (by decide +kernel) ?_ | refine Nd.mk (by decide +kernel) ?_ | refine Nd.mk (by omega) ?_ | (refine Nd.mk ?_ ?_; focus ((repeat' (first | exact trivial | exact wkE_refl _ | refine And.intro ?_ ?_)); done)) | refine RdN.intro _ rfl (by rfl) ?_); (conv => whnf))))
      refine call1 (left_c ub s a out len cap ha hs _ (fun w hw => hw.2.1)) ?_
      ((conv => whnf); (repeat ((first | refine BoxN.own ?_ | refine RwN.own ?_ | refine VrN.norm (wrap_i64 (by omega)) ?_ | refine VrN.keep ?_ | refine DrawN.calm (by decide +kernel) ?_ | refine Nd.mk (by decide +kernel) ?_ | refine Nd.mk (by omega) ?_ | (refine Nd.mk ?_ ?_; focus ((repeat' (first | exact trivial | exact wkE_refl _ | refine And.intro ?_ ?_)); done)) | refine RdN.intro _ rfl (by rfl) ?_); (conv => whnf))))
      cases hd : s.drop a with
      | nil =>
        have hl := drop_end hd ha
        rw [hd] at hrd
        refine brd_eq (fun h1 => ?_) (fun h1 => absurd (by omega) h1)
        ((conv => whnf); (repeat ((first | refine BoxN.own ?_ | refine RwN.own ?_ | refine VrN.norm (wrap_i64 (by omega)) ?_ | refine VrN.keep ?_ | refine DrawN.calm (by decide +kernel) ?_ | refine Nd.mk (by decide +kernel) ?_ | refine Nd.mk (by omega) ?_ | (refine Nd.mk ?_ ?_; focus ((repeat' (first | exact trivial | exact wkE_refl _ | refine And.intro ?_ ?_)); done)) | refine RdN.intro _ rfl (by rfl) ?_); (conv => whnf))))
        exact ⟨(0, 14, a), by rw [hrd]; exact ⟨rfl, rfl, ha⟩, rfl, wkE_refl _, wkE_refl _, wkH_nil _⟩
      | cons c r =>
        obtain ⟨_, hlt, _, hln⟩ := drop_at hd
        rw [hd] at hrd
        have hrd2 : rdNum d (c :: r) = match runeD (c :: r) with | some (n, k) => .ok ((n : Int), k) | none => .error 1 := hrd
        have hdec := dec_eq c r
        refine brd_eq (fun h1 => absurd h1 (by omega)) (fun h1 => ?_)
        ((conv => whnf); (repeat ((first | refine BoxN.own ?_ | refine RwN.own ?_ | refine VrN.norm (wrap_i64 (by omega)) ?_ | refine VrN.keep ?_ | refine DrawN.calm (by decide +kernel) ?_ | refine Nd.mk (by decide +kernel) ?_ | refine Nd.mk (by omega) ?_ | (refine Nd.mk ?_ ?_; focus ((repeat' (first | exact trivial | exact wkE_refl _ | refine And.intro ?_ ?_)); done)) | refine RdN.intro _ rfl (by rfl) ?_); (conv => whnf))))
        refine LdN.one (a := some ⟨ub, 0, none⟩) (q := 0) (.string (bs s)) rfl (fun w hw => hw.2.1) rfl ?_
        ((conv => whnf); (repeat ((first | refine BoxN.own ?_ | refine RwN.own ?_ | refine VrN.norm (wrap_i64 (by omega)) ?_ | refine VrN.keep ?_ | refine DrawN.calm (by decide +kernel) ?_ | refine Nd.mk (by decide +kernel) ?_ | refine Nd.mk (by omega) ?_ | (refine Nd.mk ?_ ?_; focus ((repeat' (first | exact trivial | exact wkE_refl _ | refine And.intro ?_ ?_)); done)) | refine RdN.intro _ rfl (by rfl) ?_); (conv => whnf))))
        refine LdN.one (a := some ⟨ub, 0, none⟩) (q := 1) (.int .i64 (a : Int)) rfl (fun w hw => hw.2.1) rfl ?_
        ((conv => whnf); (repeat ((first | refine BoxN.own ?_ | refine RwN.own ?_ | refine VrN.norm (wrap_i64 (by omega)) ?_ | refine VrN.keep ?_ | refine DrawN.calm (by decide +kernel) ?_ | refine Nd.mk (by decide +kernel) ?_ | refine Nd.mk (by omega) ?_ | (refine Nd.mk ?_ ?_; focus ((repeat' (first | exact trivial | exact wkE_refl _ | refine And.intro ?_ ?_)); done)) | refine RdN.intro _ rfl (by rfl) ?_); (conv => whnf))))
        refine ReadW.sl_l a rfl Tryd.underlying9 rfl rfl ⟨rfl, ha⟩ ?_
        rw [hd]
        ((conv => whnf); (repeat ((first | refine BoxN.own ?_ | refine RwN.own ?_ | refine VrN.norm (wrap_i64 (by omega)) ?_ | refine VrN.keep ?_ | refine DrawN.calm (by decide +kernel) ?_ | refine Nd.mk (by decide +kernel) ?_ | refine Nd.mk (by omega) ?_ | (refine Nd.mk ?_ ?_; focus ((repeat' (first | exact trivial | exact wkE_refl _ | refine And.intro ?_ ?_)); done)) | refine RdN.intro _ rfl (by rfl) ?_); (conv => whnf))))
        refine callQ (Decode_c (c :: r) _ (fun w hw => hw.1)) ?_
        rw [hdec]
        cases hrn : runeD (c :: r) with
        | none =>
          rw [hrn] at hrd2
          ((conv => whnf); (repeat ((first | refine BoxN.own ?_ | refine RwN.own ?_ | refine VrN.norm (wrap_i64 (by omega)) ?_ | refine VrN.keep ?_ | refine DrawN.calm (by decide +kernel) ?_ | refine Nd.mk (by decide +kernel) ?_ | refine Nd.mk (by omega) ?_ | (refine Nd.mk ?_ ?_; focus ((repeat' (first | exact trivial | exact wkE_refl _ | refine And.intro ?_ ?_)); done)) | refine RdN.intro _ rfl (by rfl) ?_); (conv => whnf))))
          exact ⟨(0, 1, a), by rw [hrd2]; exact ⟨rfl, rfl, ha⟩, rfl, wkE_refl _, wkE_refl _, wkH_nil _⟩
        | some x =>
          obtain ⟨n, k⟩ := x
          rw [hrn] at hrd2
          obtain ⟨h3, h4, h5, h6⟩ := runeD_le hrn
          obtain ⟨z, hz⟩ : ∃ z : Int, z = (n : Int) := ⟨_, rfl⟩
          have ho1 : ((orErr (some (n, k))).1 : Int) = z := hz.symm
          have ho2 : ((orErr (some (n, k))).2 : Int) = (k : Int) := rfl
          rw [ho1, ho2]
          have hk2 : a + k ≤ s.length := by simp only [List.length_cons] at h4; omega
          ((conv => whnf); (repeat ((first | refine BoxN.own ?_ | refine RwN.own ?_ | refine VrN.norm (wrap_i64 (by omega)) ?_ | refine VrN.keep ?_ | refine DrawN.calm (by decide +kernel) ?_ | refine Nd.mk (by decide +kernel) ?_ | refine Nd.mk (by omega) ?_ | (refine Nd.mk ?_ ?_; focus ((repeat' (first | exact trivial | exact wkE_refl _ | refine And.intro ?_ ?_)); done)) | refine RdN.intro _ rfl (by rfl) ?_); (conv => whnf))))
          refine brd_eq (fun h7 => ?_) (fun h7 => ?_)
          · have hk1 := h6 (by omega)
            ((conv => whnf); (repeat ((first | refine BoxN.own ?_ | refine RwN.own ?_ | refine VrN.norm (wrap_i64 (by omega)) ?_ | refine VrN.keep ?_ | refine DrawN.calm (by decide +kernel) ?_ | refine Nd.mk (by decide +kernel) ?_ | refine Nd.mk (by omega) ?_ | (refine Nd.mk ?_ ?_; focus ((repeat' (first | exact trivial | exact wkE_refl _ | refine And.intro ?_ ?_)); done)) | refine RdN.intro _ rfl (by rfl) ?_); (conv => whnf))))
            refine brd_dec (fun h8 => absurd h8 (by omega)) (fun _ => ?_)
            ((conv => whnf); (repeat ((first | refine BoxN.own ?_ | refine RwN.own ?_ | refine VrN.norm (wrap_i64 (by omega)) ?_ | refine VrN.keep ?_ | refine DrawN.calm (by decide +kernel) ?_ | refine Nd.mk (by decide +kernel) ?_ | refine Nd.mk (by omega) ?_ | (refine Nd.mk ?_ ?_; focus ((repeat' (first | exact trivial | exact wkE_refl _ | refine And.intro ?_ ?_)); done)) | refine RdN.intro _ rfl (by rfl) ?_); (conv => whnf))))
            refine LdN.one (a := some ⟨ub, 0, none⟩) (q := 1) (.int .i64 (a : Int)) rfl (fun w hw => hw.2.1) rfl ?_
            ((conv => whnf); (repeat ((first | refine BoxN.own ?_ | refine RwN.own ?_ | refine VrN.norm (wrap_i64 (by omega)) ?_ | refine VrN.keep ?_ | refine DrawN.calm (by decide +kernel) ?_ | refine Nd.mk (by decide +kernel) ?_ | refine Nd.mk (by omega) ?_ | (refine Nd.mk ?_ ?_; focus ((repeat' (first | exact trivial | exact wkE_refl _ | refine And.intro ?_ ?_)); done)) | refine RdN.intro _ rfl (by rfl) ?_); (conv => whnf))))
            refine EffW.appTo (i := 1) (q := 1) (ys := [_]) (unC s (a + k) out len cap) 3 rfl rfl rfl rfl rfl rfl rfl (Nat.le_of_ble_eq_true rfl) (by
              show [_, Value.int .i64 _, _] = [_, Value.int .i64 _, _]
              rw [wrap_i64 (by omega)]
              rfl) rfl ?_
            ((conv => whnf); (repeat ((first | refine BoxN.own ?_ | refine RwN.own ?_ | refine VrN.norm (wrap_i64 (by omega)) ?_ | refine VrN.keep ?_ | refine DrawN.calm (by decide +kernel) ?_ | refine Nd.mk (by decide +kernel) ?_ | refine Nd.mk (by omega) ?_ | (refine Nd.mk ?_ ?_; focus ((repeat' (first | exact trivial | exact wkE_refl _ | refine And.intro ?_ ?_)); done)) | refine RdN.intro _ rfl (by rfl) ?_); (conv => whnf))))
            exact ⟨((n : Int), 0, a + k), by rw [hrd2]; exact ⟨rfl, hk2⟩, by rw [hz]; rfl, wkE_refl _, wkE_refl _, wkH_nil _⟩
          · skip
            ((conv => whnf); (repeat ((first | refine BoxN.own ?_ | refine RwN.own ?_ | refine VrN.norm (wrap_i64 (by omega)) ?_ | refine VrN.keep ?_ | refine DrawN.calm (by decide +kernel) ?_ | refine Nd.mk (by decide +kernel) ?_ | refine Nd.mk (by omega) ?_ | (refine Nd.mk ?_ ?_; focus ((repeat' (first | exact trivial | exact wkE_refl _ | refine And.intro ?_ ?_)); done)) | refine RdN.intro _ rfl (by rfl) ?_); (conv => whnf))))
            refine LdN.one (a := some ⟨ub, 0, none⟩) (q := 1) (.int .i64 (a : Int)) rfl (fun w hw => hw.2.1) rfl ?_
            ((conv => whnf); (repeat ((first | refine BoxN.own ?_ | refine RwN.own ?_ | refine VrN.norm (wrap_i64 (by omega)) ?_ | refine VrN.keep ?_ | refine DrawN.calm (by decide +kernel) ?_ | refine Nd.mk (by decide +kernel) ?_ | refine Nd.mk (by omega) ?_ | (refine Nd.mk ?_ ?_; focus ((repeat' (first | exact trivial | exact wkE_refl _ | refine And.intro ?_ ?_)); done)) | refine RdN.intro _ rfl (by rfl) ?_); (conv => whnf))))
            refine EffW.appTo (i := 1) (q := 1) (ys := [_]) (unC s (a + k) out len cap) 3 rfl rfl rfl rfl rfl rfl rfl (Nat.le_of_ble_eq_true rfl) (by
              show [_, Value.int .i64 _, _] = [_, Value.int .i64 _, _]
              rw [wrap_i64 (by omega)]
              rfl) rfl ?_
            ((conv => whnf); (repeat ((first | refine BoxN.own ?_ | refine RwN.own ?_ | refine VrN.norm (wrap_i64 (by omega)) ?_ | refine VrN.keep ?_ | refine DrawN.calm (by decide +kernel) ?_ | refine Nd.mk (by decide +kernel) ?_ | refine Nd.mk (by omega) ?_ | (refine Nd.mk ?_ ?_; focus ((repeat' (first | exact trivial | exact wkE_refl _ | refine And.intro ?_ ?_)); done)) | refine RdN.intro _ rfl (by rfl) ?_); (conv => whnf))))
            exact ⟨((n : Int), 0, a + k), by rw [hrd2]; exact ⟨rfl, hk2⟩, by rw [hz]; rfl, wkE_refl _, wkE_refl _, wkH_nil _⟩
    | false =>
      have hz0 : sz d.letter ≠ 0 := by
        rcases letter_num hl hst hp with h | h | h
        · rw [h] at e1; exact absurd e1 (by decide)
        · rw [h] at e2; exact absurd e2 (by decide)
        · exact h
      ((conv => whnf); (repeat ((first | refine BoxN.own ?_ | refine RwN.own ?_ | refine VrN.norm (wrap_i64 (by omega)) ?_ | refine VrN.keep ?_ | refine DrawN.calm (by decide +kernel) ?_ | refine Nd.mk (by decide +kernel) ?_ | refine Nd.mk (by omega) ?_ | (refine Nd.mk ?_ ?_; focus ((repeat' (first | exact trivial | exact wkE_refl _ | refine And.intro ?_ ?_)); done)) | refine RdN.intro _ rfl (by rfl) ?_); (conv => whnf))))
      refine callG (fixed_c d ub s a out len cap hz0 ha hs) [1] rfl ⟨rfl, trivial⟩ rfl ?_
      intro i hi
      ((conv => whnf); (repeat ((first | refine BoxN.own ?_ | refine RwN.own ?_ | refine VrN.norm (wrap_i64 (by omega)) ?_ | refine VrN.keep ?_ | refine DrawN.calm (by decide +kernel) ?_ | refine Nd.mk (by decide +kernel) ?_ | refine Nd.mk (by omega) ?_ | (refine Nd.mk ?_ ?_; focus ((repeat' (first | exact trivial | exact wkE_refl _ | refine And.intro ?_ ?_)); done)) | refine RdN.intro _ rfl (by rfl) ?_); (conv => whnf))))
      exact ⟨i, hi, rfl, wkE_refl _, wkE_refl _, wkH_nil _⟩
end Go.Proofs.YtjkchonpnocffaaDoor

/-
  What the rows list, and what it gives: the tables of utf8.
-/
namespace Go.Proofs.YtjkchonpnocffaaDoor
open Go.ChangeShapes Go.WideShapes Go.ChangeAt Go.RowKit Go.AX
set_option maxRecDepth 100000

/-- What the rows list. -/
def laid3 : List (String × DataW Unit) := [("unicode/utf8.acceptRanges", Rows.laid_unicode_utf8_acceptRanges), ("unicode/utf8.first", Rows.laid_unicode_utf8_first)]
theorem door_met (os : Os) (args : Array Value) : laidMetH Tryd.prog laid3 ((World.laidAll Tryd.prog os laid3).forCall (fun _ _ => 0) ⟨#[], args, []⟩).memory := by
  rw [MakeChecks.laidMetH_plain _ _ _ (by kernel_rfl)]; exact laidMet_laidAll _ (by kernel_rfl) (by kernel_rfl)
theorem tabs_of {W : World} (h : laidMetH Tryd.prog laid3 W) : Lib.Utf8Tabs 1 2 W := by
  rw [MakeChecks.laidMetH_plain _ _ _ (by kernel_rfl)] at h
  have h1 : Lib.VarReads Tryd.prog W "unicode/utf8.first" Lib.firstData := by
    have := Lib.laidMet.reads h (n := "unicode/utf8.first") (d := Rows.laid_unicode_utf8_first) (.tail _ (.head _))
    rw [show Rows.laid_unicode_utf8_first = Lib.firstData from Pinned.utf8First_eq] at this
    exact this
  have h2 : Lib.VarReads Tryd.prog W "unicode/utf8.acceptRanges" Lib.acceptData := by
    have := Lib.laidMet.reads h (n := "unicode/utf8.acceptRanges") (d := Rows.laid_unicode_utf8_acceptRanges) (.head _)
    rw [show (Rows.laid_unicode_utf8_acceptRanges : DataW Unit) = Lib.acceptData by kernel_rfl] at this
    exact this
  exact Go.Proofs.utf8Tabs_of_reads (ρ := Tryd.lays260_ren) Tryd.lays260 ⟨by kernel_rfl, by kernel_rfl, by kernel_rfl, by kernel_rfl, by kernel_rfl, by kernel_rfl, by kernel_rfl⟩ h1 h2
theorem utf_imm {W : World} (h : UtfF W) : Imm (fun b => b < W.heap.size) W UtfF := by
  refine ⟨h, fun w' hw => ⟨?_, fun c hc => ?_, fun i hi => ⟨?_, ?_⟩⟩⟩
  · obtain ⟨m, hm⟩ := h.1
    exact ⟨m, cell?_keep hm (hw _ (cell?_lt hm))⟩
  · have hm := h.2.1 c hc
    exact cell?_keep hm (hw _ (cell?_lt hm))
  · have hm := (h.2.2 i hi).1
    exact cell?_keep hm (hw _ (cell?_lt hm))
  · have hm := (h.2.2 i hi).2
    exact cell?_keep hm (hw _ (cell?_lt hm))
theorem utf_of {W : World} (h : W.ShapedOpen Tryd.prog) (hL : laidMetH Tryd.prog laid3 W) : UtfF W := ⟨max_of h, tabs_of hL⟩
theorem known_utf {W : World} (h : W.ShapedOpen Tryd.prog) (hL : laidMetH Tryd.prog laid3 W) : ∀ e ∈ [Ent.fact UtfF], ∃ F, e = .fact F ∧ Imm (fun b => b < W.heap.size) W F := fun _ he => ⟨_, List.mem_singleton.1 he, utf_imm (utf_of h hL)⟩
end Go.Proofs.YtjkchonpnocffaaDoor

/-
  Plain Lean: numbers are read one by one.
-/
namespace Go.Pack
theorem runeD_pos {s : B} {n k : Nat} (h : runeD s = some (n, k)) : 1 ≤ k := by
  cases s with
  | nil => cases h
  | cons a r =>
    unfold runeD at h
    simp only at h
    split at h
    · cases h; exact Nat.le_refl _
    split at h
    · split at h
      · split at h
        · simp only [Option.some.injEq, Prod.mk.injEq] at h; omega
        · cases h
      · cases h
    split at h
    · split at h
      · split at h
        · simp only [Option.some.injEq, Prod.mk.injEq] at h; omega
        · cases h
      · cases h
    split at h
    · split at h
      · split at h
        · simp only [Option.some.injEq, Prod.mk.injEq] at h; omega
        · cases h
      · cases h
    · cases h
theorem grp_pos : ∀ (f n i : Nat) (s : B) (x : Int × Nat), grp f n i s = .ok x → i + 1 ≤ x.2
  | f, n, i, [], x, h => by cases f <;> cases h
  | 0, n, i, c :: r, x, h => by cases h
  | f + 1, n, i, c :: r, x, h => by
    unfold grp at h
    split at h
    · cases h
    split at h
    · cases h; exact Nat.le_refl _
    · have := grp_pos f _ (i + 1) r x h
      omega
theorem rdNum_pos {d : Dir} {s : B} {x : Int × Nat} (hz : d.letter = 119 ∨ d.letter = 85 ∨ sz d.letter ≠ 0) (h : rdNum d s = .ok x) : 1 ≤ x.2 := by
  unfold rdNum at h
  split at h
  · have := grp_pos _ _ _ _ _ h
    omega
  split at h
  · split at h
    · cases h
    split at h
    · rename_i n k hr
      cases h
      exact runeD_pos hr
    · cases h
  · rename_i h1 h2
    split at h
    · cases h
    split at h
    · cases h
      have : sz d.letter ≠ 0 := by
        rcases hz with h | h | h
        · exact absurd (by rw [h]; rfl) h1
        · exact absurd (by rw [h]; rfl) h2
        · exact h
      show 1 ≤ sz d.letter
      omega
    · cases h
theorem grp_err : ∀ (f n i : Nat) (s : B) (e : Int), grp f n i s = .error e → e ≠ 0
  | f, n, i, [], e, h => by cases f <;> cases h <;> decide
  | 0, n, i, c :: r, e, h => by cases h; decide
  | f + 1, n, i, c :: r, e, h => by
    unfold grp at h
    split at h
    · cases h; decide
    split at h
    · cases h
    · exact grp_err f _ (i + 1) r e h
theorem whl_err {d : Dir} {s : B} {e : Int} (h : whl d s = .error e) : e ≠ 0 := by
  unfold whl at h
  simp only at h
  generalize beN (if hi d = true then s else s.reverse) = u at h
  by_cases hg : sg d.letter = true
  · rw [if_pos hg] at h; cases h
  · rw [if_neg hg] at h
    by_cases hu : u < 2 ^ 63
    · rw [if_pos hu] at h; cases h
    · rw [if_neg hu] at h; cases h; decide
theorem rdNum_err {d : Dir} {s : B} {e : Int} (h : rdNum d s = .error e) : e ≠ 0 := by
  unfold rdNum at h
  split at h
  · exact grp_err _ _ _ _ _ h
  split at h
  · split at h
    · cases h; decide
    split at h
    · cases h
    · cases h; decide
  · split at h
    · cases h; decide
    split at h
    · cases h
    · rename_i e' he
      cases h
      exact whl_err he
end Go.Pack

/-
  Contracts: sizes, signs, what fits (document).
-/
namespace Go.Proofs.YtjkchonpnocffaaDoor
open Go.AX Go.RowKit Go.Pack
set_option maxRecDepth 20000

theorem digit_r (c : UInt8) : ∀ H, SpecH Tryd.prog 63 (pvs [.int .u8 (c.toNat : Int)]) H (Ret (.int .i64 (match hexV c with | some x => (x : Int) | none => -1)) H) := by
  refine pureC hm Tryd.func63 (by kernel_rfl) rfl rfl ?_
  ((conv => whnf); (repeat ((first | refine BoxN.own ?_ | refine RwN.own ?_ | refine VrN.norm (wrap_i64 (by omega)) ?_ | refine VrN.keep ?_ | refine DrawN.calm (by decide +kernel) ?_ | refine Nd.mk (by decide +kernel) ?_ | refine Nd.mk (by omega) ?_ | (refine Nd.mk ?_ ?_; focus ((repeat' (first | exact trivial | exact wkE_refl _ | refine And.intro ?_ ?_)); done)) | refine RdN.intro _ rfl (by rfl) ?_); (conv => whnf))))
  refine call1 (IndexByte_c [48, 49, 50, 51, 52, 53, 54, 55, 56, 57, 97, 98, 99, 100, 101, 102] c _) ?_
  ((conv => whnf); (repeat ((first | refine BoxN.own ?_ | refine RwN.own ?_ | refine VrN.norm (wrap_i64 (by omega)) ?_ | refine VrN.keep ?_ | refine DrawN.calm (by decide +kernel) ?_ | refine Nd.mk (by decide +kernel) ?_ | refine Nd.mk (by omega) ?_ | (refine Nd.mk ?_ ?_; focus ((repeat' (first | exact trivial | exact wkE_refl _ | refine And.intro ?_ ?_)); done)) | refine RdN.intro _ rfl (by rfl) ?_); (conv => whnf))))
  rw [hex_index]
  rfl
end Go.Proofs.YtjkchonpnocffaaDoor

/-
  Contracts: what fits, characters, bytes turned (document).
-/
namespace Go.Proofs.YtjkchonpnocffaaDoor
open Go.AX Go.RowKit Go.Pack
set_option maxRecDepth 20000

end Go.Proofs.YtjkchonpnocffaaDoor

/-
  Contracts: the bytes of a character; bytes turned (document).
-/
namespace Go.Proofs.YtjkchonpnocffaaDoor
open Go.AX Go.RowKit Go.Pack
set_option maxRecDepth 20000

theorem SlAt.eq {a : Option Addr} {k : Nat} {xs ys : List Value} {w : World} (h : SlAt a k xs w) (e : xs = ys) : SlAt a k ys w := e ▸ h
end Go.Proofs.YtjkchonpnocffaaDoor
