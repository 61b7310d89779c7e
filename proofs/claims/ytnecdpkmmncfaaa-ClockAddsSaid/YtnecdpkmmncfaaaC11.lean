/-
  Contract of the law ClockAdds: it returns true, of every eight numbers.
-/
import Derived.Test.YtnecdpkmmncfaaaC10
namespace Go.Proofs.Ytnecdpkmmncfaaa
open Go.AX
set_option maxRecDepth 20000

theorem Adds_c (y m d k i s n M : Int) : ∀ H, SpecH Try.prog 3 (pvs [.agg #[.int .i64 y, .int .i64 m, .int .i64 d, .int .i64 k, .int .i64 i, .int .i64 s, .int .i64 n, .int .i64 M]]) H (Ret (.bool true) H) := by
  refine pureC hm Try.func3 (by kernel_rfl) rfl rfl ?_
  ((conv => whnf); (repeat ((refine VrN.keep ?_); (conv => whnf)))); refine callR (rMade_c n _) fun x hx => ?_
  obtain ⟨y', m', d', k', i', s', rfl, hv⟩ := hx
  ((conv => whnf); (repeat ((refine VrN.keep ?_); (conv => whnf)))); refine call1 (back_c _ _ _ _ _ _ _) ?_
  ((conv => whnf); (repeat ((first | refine VrN.norm (wrap_i64 (by omega)) ?_ | refine VrN.keep ?_ | refine Nd.mk (by kernel_rfl) ?_ | refine Nd.mk (by omega) ?_ | refine RdN.intro _ rfl (by kernel_rfl) ?_); (conv => whnf)))); refine call1 (steps_c _ _ _ _ _ _ _ _) ?_
  ((conv => whnf); (repeat ((first | refine VrN.norm (wrap_i64 (by omega)) ?_ | refine VrN.keep ?_ | refine Nd.mk (by kernel_rfl) ?_ | refine Nd.mk (by omega) ?_ | refine RdN.intro _ rfl (by kernel_rfl) ?_); (conv => whnf)))); refine call1 (steps_c _ _ _ _ _ _ _ _) ?_
  ((conv => whnf); (repeat ((first | refine VrN.norm (wrap_i64 (by omega)) ?_ | refine VrN.keep ?_ | refine Nd.mk (by kernel_rfl) ?_ | refine Nd.mk (by omega) ?_ | refine RdN.intro _ rfl (by kernel_rfl) ?_); (conv => whnf)))); refine call1 (steps_c _ _ _ _ _ _ _ _) ?_
  ((conv => whnf); (repeat ((first | refine VrN.norm (wrap_i64 (by omega)) ?_ | refine VrN.keep ?_ | refine Nd.mk (by kernel_rfl) ?_ | refine Nd.mk (by omega) ?_ | refine RdN.intro _ rfl (by kernel_rfl) ?_); (conv => whnf)))); refine call1 (steps_c _ _ _ _ _ _ _ _) ?_
  ((conv => whnf); (repeat ((first | refine VrN.norm (wrap_i64 (by omega)) ?_ | refine VrN.keep ?_ | refine Nd.mk (by kernel_rfl) ?_ | refine Nd.mk (by omega) ?_ | refine RdN.intro _ rfl (by kernel_rfl) ?_); (conv => whnf)))); refine call1 (sane_c _) ?_
  ((conv => whnf); (repeat ((first | refine VrN.norm (wrap_i64 (by omega)) ?_ | refine VrN.keep ?_ | refine Nd.mk (by kernel_rfl) ?_ | refine Nd.mk (by omega) ?_ | refine RdN.intro _ rfl (by kernel_rfl) ?_); (conv => whnf))))
  trace_state
end Go.Proofs.Ytnecdpkmmncfaaa
