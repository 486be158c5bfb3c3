/-
  The sine of turns: contracts.
-/
import Derived.Test.YtbfoochpinkpgaaLpB
import Derived.Test.YtbfoochpinkpgaaFwC

namespace Go.Fw.W1
open Go.Proofs

theorem can0' : can .f32 0 = 0 := by decide +kernel
theorem fin_num (x : Nat) : fin x = num .f32 x := by
  unfold fin
  rw [can0', num_sub]
  cases num .f32 x <;> rfl
theorem big_absN {x : Nat} (h : num .f64 x = true) : geF (absN x) c52 = bigF x := by
  obtain ⟨s, m, i, hy⟩ := num_iff.1 h
  have := (big_abs hy).1
  rw [sw64] at this
  exact this
noncomputable def lp132 : List (Nat × (St → T)) := [(0, N132)]
theorem lp132_ok : LpOK Try.prog (look lp132) (bodyOf Try.f132) := lp_loops (by kernel_rfl) (by kernel_rfl) fun p hp => by
  simp only [lp132, List.mem_cons, List.not_mem_nil, or_false] at hp
  rcases hp with rfl
  · exact loopN132
theorem auto132 (x : Nat) : autoLp cfg31 (look lp132) Try.f132 [.flt .f64 x] =
    some (bif forder FloatKind.f64 (fop BinOp.sub FloatKind.f64 x x) (can FloatKind.f64 0) != some Ordering.eq then true else bif bif forder FloatKind.f64 x (can FloatKind.f64 4841369599423283200) == some Ordering.gt || forder FloatKind.f64 x (can FloatKind.f64 4841369599423283200) == some Ordering.eq then true else forder FloatKind.f64 x (can FloatKind.f64 14064741636278059008) == some Ordering.lt || forder FloatKind.f64 x (can FloatKind.f64 14064741636278059008) == some Ordering.eq then true else ftoIntOk FloatKind.f64 x IntKind.i64 && bif forder FloatKind.f64 (fop BinOp.sub FloatKind.f64 x (fofInt FloatKind.f64 (ftoInt FloatKind.f64 x IntKind.i64))) (can FloatKind.f64 0) == some Ordering.lt then bif forder FloatKind.f64 (fop BinOp.add FloatKind.f64 (fop BinOp.sub FloatKind.f64 x (fofInt FloatKind.f64 (ftoInt FloatKind.f64 x IntKind.i64))) (can FloatKind.f64 4607182418800017408)) (can FloatKind.f64 4602678819172646912) == some Ordering.gt || forder FloatKind.f64 (fop BinOp.add FloatKind.f64 (fop BinOp.sub FloatKind.f64 x (fofInt FloatKind.f64 (ftoInt FloatKind.f64 x IntKind.i64))) (can FloatKind.f64 4607182418800017408)) (can FloatKind.f64 4602678819172646912) == some Ordering.eq then bif forder FloatKind.f64 (fop BinOp.sub FloatKind.f64 (fop BinOp.add FloatKind.f64 (fop BinOp.sub FloatKind.f64 x (fofInt FloatKind.f64 (ftoInt FloatKind.f64 x IntKind.i64))) (can FloatKind.f64 4607182418800017408)) (can FloatKind.f64 4602678819172646912)) (can FloatKind.f64 4598175219545276416) == some Ordering.gt then (can FloatKind.f64 4607182418800017408).beq (sp (fop BinOp.mul FloatKind.f64 (fop BinOp.mul FloatKind.f64 (fop BinOp.sub FloatKind.f64 (can FloatKind.f64 4602678819172646912) (fop BinOp.sub FloatKind.f64 (fop BinOp.add FloatKind.f64 (fop BinOp.sub FloatKind.f64 x (fofInt FloatKind.f64 (ftoInt FloatKind.f64 x IntKind.i64))) (can FloatKind.f64 4607182418800017408)) (can FloatKind.f64 4602678819172646912))) (can FloatKind.f64 4618760256179416344)) (fop BinOp.mul FloatKind.f64 (fop BinOp.sub FloatKind.f64 (can FloatKind.f64 4602678819172646912) (fop BinOp.sub FloatKind.f64 (fop BinOp.add FloatKind.f64 (fop BinOp.sub FloatKind.f64 x (fofInt FloatKind.f64 (ftoInt FloatKind.f64 x IntKind.i64))) (can FloatKind.f64 4607182418800017408)) (can FloatKind.f64 4602678819172646912))) (can FloatKind.f64 4618760256179416344))) 0) && decide (8 = kI 0) && bif forder FloatKind.f64 (fop BinOp.add FloatKind.f64 (fop BinOp.sub FloatKind.f64 x (fofInt FloatKind.f64 (ftoInt FloatKind.f64 x IntKind.i64))) (can FloatKind.f64 4607182418800017408)) (can FloatKind.f64 4602678819172646912) == some Ordering.gt || forder FloatKind.f64 (fop BinOp.add FloatKind.f64 (fop BinOp.sub FloatKind.f64 x (fofInt FloatKind.f64 (ftoInt FloatKind.f64 x IntKind.i64))) (can FloatKind.f64 4607182418800017408)) (can FloatKind.f64 4602678819172646912) == some Ordering.eq then true else true else (can FloatKind.f64 4607182418800017408).beq (sp (fop BinOp.mul FloatKind.f64 (fop BinOp.mul FloatKind.f64 (fop BinOp.sub FloatKind.f64 (fop BinOp.add FloatKind.f64 (fop BinOp.sub FloatKind.f64 x (fofInt FloatKind.f64 (ftoInt FloatKind.f64 x IntKind.i64))) (can FloatKind.f64 4607182418800017408)) (can FloatKind.f64 4602678819172646912)) (can FloatKind.f64 4618760256179416344)) (fop BinOp.mul FloatKind.f64 (fop BinOp.sub FloatKind.f64 (fop BinOp.add FloatKind.f64 (fop BinOp.sub FloatKind.f64 x (fofInt FloatKind.f64 (ftoInt FloatKind.f64 x IntKind.i64))) (can FloatKind.f64 4607182418800017408)) (can FloatKind.f64 4602678819172646912)) (can FloatKind.f64 4618760256179416344))) 0) && decide (8 = kI 0) && bif forder FloatKind.f64 (fop BinOp.add FloatKind.f64 (fop BinOp.sub FloatKind.f64 x (fofInt FloatKind.f64 (ftoInt FloatKind.f64 x IntKind.i64))) (can FloatKind.f64 4607182418800017408)) (can FloatKind.f64 4602678819172646912) == some Ordering.gt || forder FloatKind.f64 (fop BinOp.add FloatKind.f64 (fop BinOp.sub FloatKind.f64 x (fofInt FloatKind.f64 (ftoInt FloatKind.f64 x IntKind.i64))) (can FloatKind.f64 4607182418800017408)) (can FloatKind.f64 4602678819172646912) == some Ordering.eq then true else true else bif forder FloatKind.f64 (fop BinOp.add FloatKind.f64 (fop BinOp.sub FloatKind.f64 x (fofInt FloatKind.f64 (ftoInt FloatKind.f64 x IntKind.i64))) (can FloatKind.f64 4607182418800017408)) (can FloatKind.f64 4598175219545276416) == some Ordering.gt then (can FloatKind.f64 4607182418800017408).beq (sp (fop BinOp.mul FloatKind.f64 (fop BinOp.mul FloatKind.f64 (fop BinOp.sub FloatKind.f64 (can FloatKind.f64 4602678819172646912) (fop BinOp.add FloatKind.f64 (fop BinOp.sub FloatKind.f64 x (fofInt FloatKind.f64 (ftoInt FloatKind.f64 x IntKind.i64))) (can FloatKind.f64 4607182418800017408))) (can FloatKind.f64 4618760256179416344)) (fop BinOp.mul FloatKind.f64 (fop BinOp.sub FloatKind.f64 (can FloatKind.f64 4602678819172646912) (fop BinOp.add FloatKind.f64 (fop BinOp.sub FloatKind.f64 x (fofInt FloatKind.f64 (ftoInt FloatKind.f64 x IntKind.i64))) (can FloatKind.f64 4607182418800017408))) (can FloatKind.f64 4618760256179416344))) 0) && decide (8 = kI 0) && bif forder FloatKind.f64 (fop BinOp.add FloatKind.f64 (fop BinOp.sub FloatKind.f64 x (fofInt FloatKind.f64 (ftoInt FloatKind.f64 x IntKind.i64))) (can FloatKind.f64 4607182418800017408)) (can FloatKind.f64 4602678819172646912) == some Ordering.gt || forder FloatKind.f64 (fop BinOp.add FloatKind.f64 (fop BinOp.sub FloatKind.f64 x (fofInt FloatKind.f64 (ftoInt FloatKind.f64 x IntKind.i64))) (can FloatKind.f64 4607182418800017408)) (can FloatKind.f64 4602678819172646912) == some Ordering.eq then true else true else (can FloatKind.f64 4607182418800017408).beq (sp (fop BinOp.mul FloatKind.f64 (fop BinOp.mul FloatKind.f64 (fop BinOp.add FloatKind.f64 (fop BinOp.sub FloatKind.f64 x (fofInt FloatKind.f64 (ftoInt FloatKind.f64 x IntKind.i64))) (can FloatKind.f64 4607182418800017408)) (can FloatKind.f64 4618760256179416344)) (fop BinOp.mul FloatKind.f64 (fop BinOp.add FloatKind.f64 (fop BinOp.sub FloatKind.f64 x (fofInt FloatKind.f64 (ftoInt FloatKind.f64 x IntKind.i64))) (can FloatKind.f64 4607182418800017408)) (can FloatKind.f64 4618760256179416344))) 0) && decide (8 = kI 0) && bif forder FloatKind.f64 (fop BinOp.add FloatKind.f64 (fop BinOp.sub FloatKind.f64 x (fofInt FloatKind.f64 (ftoInt FloatKind.f64 x IntKind.i64))) (can FloatKind.f64 4607182418800017408)) (can FloatKind.f64 4602678819172646912) == some Ordering.gt || forder FloatKind.f64 (fop BinOp.add FloatKind.f64 (fop BinOp.sub FloatKind.f64 x (fofInt FloatKind.f64 (ftoInt FloatKind.f64 x IntKind.i64))) (can FloatKind.f64 4607182418800017408)) (can FloatKind.f64 4602678819172646912) == some Ordering.eq then true else true else bif forder FloatKind.f64 (fop BinOp.sub FloatKind.f64 x (fofInt FloatKind.f64 (ftoInt FloatKind.f64 x IntKind.i64))) (can FloatKind.f64 4602678819172646912) == some Ordering.gt || forder FloatKind.f64 (fop BinOp.sub FloatKind.f64 x (fofInt FloatKind.f64 (ftoInt FloatKind.f64 x IntKind.i64))) (can FloatKind.f64 4602678819172646912) == some Ordering.eq then bif forder FloatKind.f64 (fop BinOp.sub FloatKind.f64 (fop BinOp.sub FloatKind.f64 x (fofInt FloatKind.f64 (ftoInt FloatKind.f64 x IntKind.i64))) (can FloatKind.f64 4602678819172646912)) (can FloatKind.f64 4598175219545276416) == some Ordering.gt then (can FloatKind.f64 4607182418800017408).beq (sp (fop BinOp.mul FloatKind.f64 (fop BinOp.mul FloatKind.f64 (fop BinOp.sub FloatKind.f64 (can FloatKind.f64 4602678819172646912) (fop BinOp.sub FloatKind.f64 (fop BinOp.sub FloatKind.f64 x (fofInt FloatKind.f64 (ftoInt FloatKind.f64 x IntKind.i64))) (can FloatKind.f64 4602678819172646912))) (can FloatKind.f64 4618760256179416344)) (fop BinOp.mul FloatKind.f64 (fop BinOp.sub FloatKind.f64 (can FloatKind.f64 4602678819172646912) (fop BinOp.sub FloatKind.f64 (fop BinOp.sub FloatKind.f64 x (fofInt FloatKind.f64 (ftoInt FloatKind.f64 x IntKind.i64))) (can FloatKind.f64 4602678819172646912))) (can FloatKind.f64 4618760256179416344))) 0) && decide (8 = kI 0) && bif forder FloatKind.f64 (fop BinOp.sub FloatKind.f64 x (fofInt FloatKind.f64 (ftoInt FloatKind.f64 x IntKind.i64))) (can FloatKind.f64 4602678819172646912) == some Ordering.gt || forder FloatKind.f64 (fop BinOp.sub FloatKind.f64 x (fofInt FloatKind.f64 (ftoInt FloatKind.f64 x IntKind.i64))) (can FloatKind.f64 4602678819172646912) == some Ordering.eq then true else true else (can FloatKind.f64 4607182418800017408).beq (sp (fop BinOp.mul FloatKind.f64 (fop BinOp.mul FloatKind.f64 (fop BinOp.sub FloatKind.f64 (fop BinOp.sub FloatKind.f64 x (fofInt FloatKind.f64 (ftoInt FloatKind.f64 x IntKind.i64))) (can FloatKind.f64 4602678819172646912)) (can FloatKind.f64 4618760256179416344)) (fop BinOp.mul FloatKind.f64 (fop BinOp.sub FloatKind.f64 (fop BinOp.sub FloatKind.f64 x (fofInt FloatKind.f64 (ftoInt FloatKind.f64 x IntKind.i64))) (can FloatKind.f64 4602678819172646912)) (can FloatKind.f64 4618760256179416344))) 0) && decide (8 = kI 0) && bif forder FloatKind.f64 (fop BinOp.sub FloatKind.f64 x (fofInt FloatKind.f64 (ftoInt FloatKind.f64 x IntKind.i64))) (can FloatKind.f64 4602678819172646912) == some Ordering.gt || forder FloatKind.f64 (fop BinOp.sub FloatKind.f64 x (fofInt FloatKind.f64 (ftoInt FloatKind.f64 x IntKind.i64))) (can FloatKind.f64 4602678819172646912) == some Ordering.eq then true else true else bif forder FloatKind.f64 (fop BinOp.sub FloatKind.f64 x (fofInt FloatKind.f64 (ftoInt FloatKind.f64 x IntKind.i64))) (can FloatKind.f64 4598175219545276416) == some Ordering.gt then (can FloatKind.f64 4607182418800017408).beq (sp (fop BinOp.mul FloatKind.f64 (fop BinOp.mul FloatKind.f64 (fop BinOp.sub FloatKind.f64 (can FloatKind.f64 4602678819172646912) (fop BinOp.sub FloatKind.f64 x (fofInt FloatKind.f64 (ftoInt FloatKind.f64 x IntKind.i64)))) (can FloatKind.f64 4618760256179416344)) (fop BinOp.mul FloatKind.f64 (fop BinOp.sub FloatKind.f64 (can FloatKind.f64 4602678819172646912) (fop BinOp.sub FloatKind.f64 x (fofInt FloatKind.f64 (ftoInt FloatKind.f64 x IntKind.i64)))) (can FloatKind.f64 4618760256179416344))) 0) && decide (8 = kI 0) && bif forder FloatKind.f64 (fop BinOp.sub FloatKind.f64 x (fofInt FloatKind.f64 (ftoInt FloatKind.f64 x IntKind.i64))) (can FloatKind.f64 4602678819172646912) == some Ordering.gt || forder FloatKind.f64 (fop BinOp.sub FloatKind.f64 x (fofInt FloatKind.f64 (ftoInt FloatKind.f64 x IntKind.i64))) (can FloatKind.f64 4602678819172646912) == some Ordering.eq then true else true else (can FloatKind.f64 4607182418800017408).beq (sp (fop BinOp.mul FloatKind.f64 (fop BinOp.mul FloatKind.f64 (fop BinOp.sub FloatKind.f64 x (fofInt FloatKind.f64 (ftoInt FloatKind.f64 x IntKind.i64))) (can FloatKind.f64 4618760256179416344)) (fop BinOp.mul FloatKind.f64 (fop BinOp.sub FloatKind.f64 x (fofInt FloatKind.f64 (ftoInt FloatKind.f64 x IntKind.i64))) (can FloatKind.f64 4618760256179416344))) 0) && decide (8 = kI 0) && bif forder FloatKind.f64 (fop BinOp.sub FloatKind.f64 x (fofInt FloatKind.f64 (ftoInt FloatKind.f64 x IntKind.i64))) (can FloatKind.f64 4602678819172646912) == some Ordering.gt || forder FloatKind.f64 (fop BinOp.sub FloatKind.f64 x (fofInt FloatKind.f64 (ftoInt FloatKind.f64 x IntKind.i64))) (can FloatKind.f64 4602678819172646912) == some Ordering.eq then true else true, A.flt FloatKind.f64 (bif forder FloatKind.f64 (fop BinOp.sub FloatKind.f64 x x) (can FloatKind.f64 0) != some Ordering.eq then qnan FloatKind.f64 else bif bif forder FloatKind.f64 x (can FloatKind.f64 4841369599423283200) == some Ordering.gt || forder FloatKind.f64 x (can FloatKind.f64 4841369599423283200) == some Ordering.eq then true else forder FloatKind.f64 x (can FloatKind.f64 14064741636278059008) == some Ordering.lt || forder FloatKind.f64 x (can FloatKind.f64 14064741636278059008) == some Ordering.eq then can FloatKind.f64 0 else bif forder FloatKind.f64 (fop BinOp.sub FloatKind.f64 x (fofInt FloatKind.f64 (ftoInt FloatKind.f64 x IntKind.i64))) (can FloatKind.f64 0) == some Ordering.lt then bif forder FloatKind.f64 (fop BinOp.add FloatKind.f64 (fop BinOp.sub FloatKind.f64 x (fofInt FloatKind.f64 (ftoInt FloatKind.f64 x IntKind.i64))) (can FloatKind.f64 4607182418800017408)) (can FloatKind.f64 4602678819172646912) == some Ordering.gt || forder FloatKind.f64 (fop BinOp.add FloatKind.f64 (fop BinOp.sub FloatKind.f64 x (fofInt FloatKind.f64 (ftoInt FloatKind.f64 x IntKind.i64))) (can FloatKind.f64 4607182418800017408)) (can FloatKind.f64 4602678819172646912) == some Ordering.eq then bif forder FloatKind.f64 (fop BinOp.sub FloatKind.f64 (fop BinOp.add FloatKind.f64 (fop BinOp.sub FloatKind.f64 x (fofInt FloatKind.f64 (ftoInt FloatKind.f64 x IntKind.i64))) (can FloatKind.f64 4607182418800017408)) (can FloatKind.f64 4602678819172646912)) (can FloatKind.f64 4598175219545276416) == some Ordering.gt then bif forder FloatKind.f64 (fop BinOp.add FloatKind.f64 (fop BinOp.sub FloatKind.f64 x (fofInt FloatKind.f64 (ftoInt FloatKind.f64 x IntKind.i64))) (can FloatKind.f64 4607182418800017408)) (can FloatKind.f64 4602678819172646912) == some Ordering.gt || forder FloatKind.f64 (fop BinOp.add FloatKind.f64 (fop BinOp.sub FloatKind.f64 x (fofInt FloatKind.f64 (ftoInt FloatKind.f64 x IntKind.i64))) (can FloatKind.f64 4607182418800017408)) (can FloatKind.f64 4602678819172646912) == some Ordering.eq then fneg FloatKind.f64 (fop BinOp.mul FloatKind.f64 (fop BinOp.mul FloatKind.f64 (fop BinOp.sub FloatKind.f64 (can FloatKind.f64 4602678819172646912) (fop BinOp.sub FloatKind.f64 (fop BinOp.add FloatKind.f64 (fop BinOp.sub FloatKind.f64 x (fofInt FloatKind.f64 (ftoInt FloatKind.f64 x IntKind.i64))) (can FloatKind.f64 4607182418800017408)) (can FloatKind.f64 4602678819172646912))) (can FloatKind.f64 4618760256179416344)) (sp (fop BinOp.mul FloatKind.f64 (fop BinOp.mul FloatKind.f64 (fop BinOp.sub FloatKind.f64 (can FloatKind.f64 4602678819172646912) (fop BinOp.sub FloatKind.f64 (fop BinOp.add FloatKind.f64 (fop BinOp.sub FloatKind.f64 x (fofInt FloatKind.f64 (ftoInt FloatKind.f64 x IntKind.i64))) (can FloatKind.f64 4607182418800017408)) (can FloatKind.f64 4602678819172646912))) (can FloatKind.f64 4618760256179416344)) (fop BinOp.mul FloatKind.f64 (fop BinOp.sub FloatKind.f64 (can FloatKind.f64 4602678819172646912) (fop BinOp.sub FloatKind.f64 (fop BinOp.add FloatKind.f64 (fop BinOp.sub FloatKind.f64 x (fofInt FloatKind.f64 (ftoInt FloatKind.f64 x IntKind.i64))) (can FloatKind.f64 4607182418800017408)) (can FloatKind.f64 4602678819172646912))) (can FloatKind.f64 4618760256179416344))) 8)) else fop BinOp.mul FloatKind.f64 (fop BinOp.mul FloatKind.f64 (fop BinOp.sub FloatKind.f64 (can FloatKind.f64 4602678819172646912) (fop BinOp.sub FloatKind.f64 (fop BinOp.add FloatKind.f64 (fop BinOp.sub FloatKind.f64 x (fofInt FloatKind.f64 (ftoInt FloatKind.f64 x IntKind.i64))) (can FloatKind.f64 4607182418800017408)) (can FloatKind.f64 4602678819172646912))) (can FloatKind.f64 4618760256179416344)) (sp (fop BinOp.mul FloatKind.f64 (fop BinOp.mul FloatKind.f64 (fop BinOp.sub FloatKind.f64 (can FloatKind.f64 4602678819172646912) (fop BinOp.sub FloatKind.f64 (fop BinOp.add FloatKind.f64 (fop BinOp.sub FloatKind.f64 x (fofInt FloatKind.f64 (ftoInt FloatKind.f64 x IntKind.i64))) (can FloatKind.f64 4607182418800017408)) (can FloatKind.f64 4602678819172646912))) (can FloatKind.f64 4618760256179416344)) (fop BinOp.mul FloatKind.f64 (fop BinOp.sub FloatKind.f64 (can FloatKind.f64 4602678819172646912) (fop BinOp.sub FloatKind.f64 (fop BinOp.add FloatKind.f64 (fop BinOp.sub FloatKind.f64 x (fofInt FloatKind.f64 (ftoInt FloatKind.f64 x IntKind.i64))) (can FloatKind.f64 4607182418800017408)) (can FloatKind.f64 4602678819172646912))) (can FloatKind.f64 4618760256179416344))) 8) else bif forder FloatKind.f64 (fop BinOp.add FloatKind.f64 (fop BinOp.sub FloatKind.f64 x (fofInt FloatKind.f64 (ftoInt FloatKind.f64 x IntKind.i64))) (can FloatKind.f64 4607182418800017408)) (can FloatKind.f64 4602678819172646912) == some Ordering.gt || forder FloatKind.f64 (fop BinOp.add FloatKind.f64 (fop BinOp.sub FloatKind.f64 x (fofInt FloatKind.f64 (ftoInt FloatKind.f64 x IntKind.i64))) (can FloatKind.f64 4607182418800017408)) (can FloatKind.f64 4602678819172646912) == some Ordering.eq then fneg FloatKind.f64 (fop BinOp.mul FloatKind.f64 (fop BinOp.mul FloatKind.f64 (fop BinOp.sub FloatKind.f64 (fop BinOp.add FloatKind.f64 (fop BinOp.sub FloatKind.f64 x (fofInt FloatKind.f64 (ftoInt FloatKind.f64 x IntKind.i64))) (can FloatKind.f64 4607182418800017408)) (can FloatKind.f64 4602678819172646912)) (can FloatKind.f64 4618760256179416344)) (sp (fop BinOp.mul FloatKind.f64 (fop BinOp.mul FloatKind.f64 (fop BinOp.sub FloatKind.f64 (fop BinOp.add FloatKind.f64 (fop BinOp.sub FloatKind.f64 x (fofInt FloatKind.f64 (ftoInt FloatKind.f64 x IntKind.i64))) (can FloatKind.f64 4607182418800017408)) (can FloatKind.f64 4602678819172646912)) (can FloatKind.f64 4618760256179416344)) (fop BinOp.mul FloatKind.f64 (fop BinOp.sub FloatKind.f64 (fop BinOp.add FloatKind.f64 (fop BinOp.sub FloatKind.f64 x (fofInt FloatKind.f64 (ftoInt FloatKind.f64 x IntKind.i64))) (can FloatKind.f64 4607182418800017408)) (can FloatKind.f64 4602678819172646912)) (can FloatKind.f64 4618760256179416344))) 8)) else fop BinOp.mul FloatKind.f64 (fop BinOp.mul FloatKind.f64 (fop BinOp.sub FloatKind.f64 (fop BinOp.add FloatKind.f64 (fop BinOp.sub FloatKind.f64 x (fofInt FloatKind.f64 (ftoInt FloatKind.f64 x IntKind.i64))) (can FloatKind.f64 4607182418800017408)) (can FloatKind.f64 4602678819172646912)) (can FloatKind.f64 4618760256179416344)) (sp (fop BinOp.mul FloatKind.f64 (fop BinOp.mul FloatKind.f64 (fop BinOp.sub FloatKind.f64 (fop BinOp.add FloatKind.f64 (fop BinOp.sub FloatKind.f64 x (fofInt FloatKind.f64 (ftoInt FloatKind.f64 x IntKind.i64))) (can FloatKind.f64 4607182418800017408)) (can FloatKind.f64 4602678819172646912)) (can FloatKind.f64 4618760256179416344)) (fop BinOp.mul FloatKind.f64 (fop BinOp.sub FloatKind.f64 (fop BinOp.add FloatKind.f64 (fop BinOp.sub FloatKind.f64 x (fofInt FloatKind.f64 (ftoInt FloatKind.f64 x IntKind.i64))) (can FloatKind.f64 4607182418800017408)) (can FloatKind.f64 4602678819172646912)) (can FloatKind.f64 4618760256179416344))) 8) else bif forder FloatKind.f64 (fop BinOp.add FloatKind.f64 (fop BinOp.sub FloatKind.f64 x (fofInt FloatKind.f64 (ftoInt FloatKind.f64 x IntKind.i64))) (can FloatKind.f64 4607182418800017408)) (can FloatKind.f64 4598175219545276416) == some Ordering.gt then bif forder FloatKind.f64 (fop BinOp.add FloatKind.f64 (fop BinOp.sub FloatKind.f64 x (fofInt FloatKind.f64 (ftoInt FloatKind.f64 x IntKind.i64))) (can FloatKind.f64 4607182418800017408)) (can FloatKind.f64 4602678819172646912) == some Ordering.gt || forder FloatKind.f64 (fop BinOp.add FloatKind.f64 (fop BinOp.sub FloatKind.f64 x (fofInt FloatKind.f64 (ftoInt FloatKind.f64 x IntKind.i64))) (can FloatKind.f64 4607182418800017408)) (can FloatKind.f64 4602678819172646912) == some Ordering.eq then fneg FloatKind.f64 (fop BinOp.mul FloatKind.f64 (fop BinOp.mul FloatKind.f64 (fop BinOp.sub FloatKind.f64 (can FloatKind.f64 4602678819172646912) (fop BinOp.add FloatKind.f64 (fop BinOp.sub FloatKind.f64 x (fofInt FloatKind.f64 (ftoInt FloatKind.f64 x IntKind.i64))) (can FloatKind.f64 4607182418800017408))) (can FloatKind.f64 4618760256179416344)) (sp (fop BinOp.mul FloatKind.f64 (fop BinOp.mul FloatKind.f64 (fop BinOp.sub FloatKind.f64 (can FloatKind.f64 4602678819172646912) (fop BinOp.add FloatKind.f64 (fop BinOp.sub FloatKind.f64 x (fofInt FloatKind.f64 (ftoInt FloatKind.f64 x IntKind.i64))) (can FloatKind.f64 4607182418800017408))) (can FloatKind.f64 4618760256179416344)) (fop BinOp.mul FloatKind.f64 (fop BinOp.sub FloatKind.f64 (can FloatKind.f64 4602678819172646912) (fop BinOp.add FloatKind.f64 (fop BinOp.sub FloatKind.f64 x (fofInt FloatKind.f64 (ftoInt FloatKind.f64 x IntKind.i64))) (can FloatKind.f64 4607182418800017408))) (can FloatKind.f64 4618760256179416344))) 8)) else fop BinOp.mul FloatKind.f64 (fop BinOp.mul FloatKind.f64 (fop BinOp.sub FloatKind.f64 (can FloatKind.f64 4602678819172646912) (fop BinOp.add FloatKind.f64 (fop BinOp.sub FloatKind.f64 x (fofInt FloatKind.f64 (ftoInt FloatKind.f64 x IntKind.i64))) (can FloatKind.f64 4607182418800017408))) (can FloatKind.f64 4618760256179416344)) (sp (fop BinOp.mul FloatKind.f64 (fop BinOp.mul FloatKind.f64 (fop BinOp.sub FloatKind.f64 (can FloatKind.f64 4602678819172646912) (fop BinOp.add FloatKind.f64 (fop BinOp.sub FloatKind.f64 x (fofInt FloatKind.f64 (ftoInt FloatKind.f64 x IntKind.i64))) (can FloatKind.f64 4607182418800017408))) (can FloatKind.f64 4618760256179416344)) (fop BinOp.mul FloatKind.f64 (fop BinOp.sub FloatKind.f64 (can FloatKind.f64 4602678819172646912) (fop BinOp.add FloatKind.f64 (fop BinOp.sub FloatKind.f64 x (fofInt FloatKind.f64 (ftoInt FloatKind.f64 x IntKind.i64))) (can FloatKind.f64 4607182418800017408))) (can FloatKind.f64 4618760256179416344))) 8) else bif forder FloatKind.f64 (fop BinOp.add FloatKind.f64 (fop BinOp.sub FloatKind.f64 x (fofInt FloatKind.f64 (ftoInt FloatKind.f64 x IntKind.i64))) (can FloatKind.f64 4607182418800017408)) (can FloatKind.f64 4602678819172646912) == some Ordering.gt || forder FloatKind.f64 (fop BinOp.add FloatKind.f64 (fop BinOp.sub FloatKind.f64 x (fofInt FloatKind.f64 (ftoInt FloatKind.f64 x IntKind.i64))) (can FloatKind.f64 4607182418800017408)) (can FloatKind.f64 4602678819172646912) == some Ordering.eq then fneg FloatKind.f64 (fop BinOp.mul FloatKind.f64 (fop BinOp.mul FloatKind.f64 (fop BinOp.add FloatKind.f64 (fop BinOp.sub FloatKind.f64 x (fofInt FloatKind.f64 (ftoInt FloatKind.f64 x IntKind.i64))) (can FloatKind.f64 4607182418800017408)) (can FloatKind.f64 4618760256179416344)) (sp (fop BinOp.mul FloatKind.f64 (fop BinOp.mul FloatKind.f64 (fop BinOp.add FloatKind.f64 (fop BinOp.sub FloatKind.f64 x (fofInt FloatKind.f64 (ftoInt FloatKind.f64 x IntKind.i64))) (can FloatKind.f64 4607182418800017408)) (can FloatKind.f64 4618760256179416344)) (fop BinOp.mul FloatKind.f64 (fop BinOp.add FloatKind.f64 (fop BinOp.sub FloatKind.f64 x (fofInt FloatKind.f64 (ftoInt FloatKind.f64 x IntKind.i64))) (can FloatKind.f64 4607182418800017408)) (can FloatKind.f64 4618760256179416344))) 8)) else fop BinOp.mul FloatKind.f64 (fop BinOp.mul FloatKind.f64 (fop BinOp.add FloatKind.f64 (fop BinOp.sub FloatKind.f64 x (fofInt FloatKind.f64 (ftoInt FloatKind.f64 x IntKind.i64))) (can FloatKind.f64 4607182418800017408)) (can FloatKind.f64 4618760256179416344)) (sp (fop BinOp.mul FloatKind.f64 (fop BinOp.mul FloatKind.f64 (fop BinOp.add FloatKind.f64 (fop BinOp.sub FloatKind.f64 x (fofInt FloatKind.f64 (ftoInt FloatKind.f64 x IntKind.i64))) (can FloatKind.f64 4607182418800017408)) (can FloatKind.f64 4618760256179416344)) (fop BinOp.mul FloatKind.f64 (fop BinOp.add FloatKind.f64 (fop BinOp.sub FloatKind.f64 x (fofInt FloatKind.f64 (ftoInt FloatKind.f64 x IntKind.i64))) (can FloatKind.f64 4607182418800017408)) (can FloatKind.f64 4618760256179416344))) 8) else bif forder FloatKind.f64 (fop BinOp.sub FloatKind.f64 x (fofInt FloatKind.f64 (ftoInt FloatKind.f64 x IntKind.i64))) (can FloatKind.f64 4602678819172646912) == some Ordering.gt || forder FloatKind.f64 (fop BinOp.sub FloatKind.f64 x (fofInt FloatKind.f64 (ftoInt FloatKind.f64 x IntKind.i64))) (can FloatKind.f64 4602678819172646912) == some Ordering.eq then bif forder FloatKind.f64 (fop BinOp.sub FloatKind.f64 (fop BinOp.sub FloatKind.f64 x (fofInt FloatKind.f64 (ftoInt FloatKind.f64 x IntKind.i64))) (can FloatKind.f64 4602678819172646912)) (can FloatKind.f64 4598175219545276416) == some Ordering.gt then bif forder FloatKind.f64 (fop BinOp.sub FloatKind.f64 x (fofInt FloatKind.f64 (ftoInt FloatKind.f64 x IntKind.i64))) (can FloatKind.f64 4602678819172646912) == some Ordering.gt || forder FloatKind.f64 (fop BinOp.sub FloatKind.f64 x (fofInt FloatKind.f64 (ftoInt FloatKind.f64 x IntKind.i64))) (can FloatKind.f64 4602678819172646912) == some Ordering.eq then fneg FloatKind.f64 (fop BinOp.mul FloatKind.f64 (fop BinOp.mul FloatKind.f64 (fop BinOp.sub FloatKind.f64 (can FloatKind.f64 4602678819172646912) (fop BinOp.sub FloatKind.f64 (fop BinOp.sub FloatKind.f64 x (fofInt FloatKind.f64 (ftoInt FloatKind.f64 x IntKind.i64))) (can FloatKind.f64 4602678819172646912))) (can FloatKind.f64 4618760256179416344)) (sp (fop BinOp.mul FloatKind.f64 (fop BinOp.mul FloatKind.f64 (fop BinOp.sub FloatKind.f64 (can FloatKind.f64 4602678819172646912) (fop BinOp.sub FloatKind.f64 (fop BinOp.sub FloatKind.f64 x (fofInt FloatKind.f64 (ftoInt FloatKind.f64 x IntKind.i64))) (can FloatKind.f64 4602678819172646912))) (can FloatKind.f64 4618760256179416344)) (fop BinOp.mul FloatKind.f64 (fop BinOp.sub FloatKind.f64 (can FloatKind.f64 4602678819172646912) (fop BinOp.sub FloatKind.f64 (fop BinOp.sub FloatKind.f64 x (fofInt FloatKind.f64 (ftoInt FloatKind.f64 x IntKind.i64))) (can FloatKind.f64 4602678819172646912))) (can FloatKind.f64 4618760256179416344))) 8)) else fop BinOp.mul FloatKind.f64 (fop BinOp.mul FloatKind.f64 (fop BinOp.sub FloatKind.f64 (can FloatKind.f64 4602678819172646912) (fop BinOp.sub FloatKind.f64 (fop BinOp.sub FloatKind.f64 x (fofInt FloatKind.f64 (ftoInt FloatKind.f64 x IntKind.i64))) (can FloatKind.f64 4602678819172646912))) (can FloatKind.f64 4618760256179416344)) (sp (fop BinOp.mul FloatKind.f64 (fop BinOp.mul FloatKind.f64 (fop BinOp.sub FloatKind.f64 (can FloatKind.f64 4602678819172646912) (fop BinOp.sub FloatKind.f64 (fop BinOp.sub FloatKind.f64 x (fofInt FloatKind.f64 (ftoInt FloatKind.f64 x IntKind.i64))) (can FloatKind.f64 4602678819172646912))) (can FloatKind.f64 4618760256179416344)) (fop BinOp.mul FloatKind.f64 (fop BinOp.sub FloatKind.f64 (can FloatKind.f64 4602678819172646912) (fop BinOp.sub FloatKind.f64 (fop BinOp.sub FloatKind.f64 x (fofInt FloatKind.f64 (ftoInt FloatKind.f64 x IntKind.i64))) (can FloatKind.f64 4602678819172646912))) (can FloatKind.f64 4618760256179416344))) 8) else bif forder FloatKind.f64 (fop BinOp.sub FloatKind.f64 x (fofInt FloatKind.f64 (ftoInt FloatKind.f64 x IntKind.i64))) (can FloatKind.f64 4602678819172646912) == some Ordering.gt || forder FloatKind.f64 (fop BinOp.sub FloatKind.f64 x (fofInt FloatKind.f64 (ftoInt FloatKind.f64 x IntKind.i64))) (can FloatKind.f64 4602678819172646912) == some Ordering.eq then fneg FloatKind.f64 (fop BinOp.mul FloatKind.f64 (fop BinOp.mul FloatKind.f64 (fop BinOp.sub FloatKind.f64 (fop BinOp.sub FloatKind.f64 x (fofInt FloatKind.f64 (ftoInt FloatKind.f64 x IntKind.i64))) (can FloatKind.f64 4602678819172646912)) (can FloatKind.f64 4618760256179416344)) (sp (fop BinOp.mul FloatKind.f64 (fop BinOp.mul FloatKind.f64 (fop BinOp.sub FloatKind.f64 (fop BinOp.sub FloatKind.f64 x (fofInt FloatKind.f64 (ftoInt FloatKind.f64 x IntKind.i64))) (can FloatKind.f64 4602678819172646912)) (can FloatKind.f64 4618760256179416344)) (fop BinOp.mul FloatKind.f64 (fop BinOp.sub FloatKind.f64 (fop BinOp.sub FloatKind.f64 x (fofInt FloatKind.f64 (ftoInt FloatKind.f64 x IntKind.i64))) (can FloatKind.f64 4602678819172646912)) (can FloatKind.f64 4618760256179416344))) 8)) else fop BinOp.mul FloatKind.f64 (fop BinOp.mul FloatKind.f64 (fop BinOp.sub FloatKind.f64 (fop BinOp.sub FloatKind.f64 x (fofInt FloatKind.f64 (ftoInt FloatKind.f64 x IntKind.i64))) (can FloatKind.f64 4602678819172646912)) (can FloatKind.f64 4618760256179416344)) (sp (fop BinOp.mul FloatKind.f64 (fop BinOp.mul FloatKind.f64 (fop BinOp.sub FloatKind.f64 (fop BinOp.sub FloatKind.f64 x (fofInt FloatKind.f64 (ftoInt FloatKind.f64 x IntKind.i64))) (can FloatKind.f64 4602678819172646912)) (can FloatKind.f64 4618760256179416344)) (fop BinOp.mul FloatKind.f64 (fop BinOp.sub FloatKind.f64 (fop BinOp.sub FloatKind.f64 x (fofInt FloatKind.f64 (ftoInt FloatKind.f64 x IntKind.i64))) (can FloatKind.f64 4602678819172646912)) (can FloatKind.f64 4618760256179416344))) 8) else bif forder FloatKind.f64 (fop BinOp.sub FloatKind.f64 x (fofInt FloatKind.f64 (ftoInt FloatKind.f64 x IntKind.i64))) (can FloatKind.f64 4598175219545276416) == some Ordering.gt then bif forder FloatKind.f64 (fop BinOp.sub FloatKind.f64 x (fofInt FloatKind.f64 (ftoInt FloatKind.f64 x IntKind.i64))) (can FloatKind.f64 4602678819172646912) == some Ordering.gt || forder FloatKind.f64 (fop BinOp.sub FloatKind.f64 x (fofInt FloatKind.f64 (ftoInt FloatKind.f64 x IntKind.i64))) (can FloatKind.f64 4602678819172646912) == some Ordering.eq then fneg FloatKind.f64 (fop BinOp.mul FloatKind.f64 (fop BinOp.mul FloatKind.f64 (fop BinOp.sub FloatKind.f64 (can FloatKind.f64 4602678819172646912) (fop BinOp.sub FloatKind.f64 x (fofInt FloatKind.f64 (ftoInt FloatKind.f64 x IntKind.i64)))) (can FloatKind.f64 4618760256179416344)) (sp (fop BinOp.mul FloatKind.f64 (fop BinOp.mul FloatKind.f64 (fop BinOp.sub FloatKind.f64 (can FloatKind.f64 4602678819172646912) (fop BinOp.sub FloatKind.f64 x (fofInt FloatKind.f64 (ftoInt FloatKind.f64 x IntKind.i64)))) (can FloatKind.f64 4618760256179416344)) (fop BinOp.mul FloatKind.f64 (fop BinOp.sub FloatKind.f64 (can FloatKind.f64 4602678819172646912) (fop BinOp.sub FloatKind.f64 x (fofInt FloatKind.f64 (ftoInt FloatKind.f64 x IntKind.i64)))) (can FloatKind.f64 4618760256179416344))) 8)) else fop BinOp.mul FloatKind.f64 (fop BinOp.mul FloatKind.f64 (fop BinOp.sub FloatKind.f64 (can FloatKind.f64 4602678819172646912) (fop BinOp.sub FloatKind.f64 x (fofInt FloatKind.f64 (ftoInt FloatKind.f64 x IntKind.i64)))) (can FloatKind.f64 4618760256179416344)) (sp (fop BinOp.mul FloatKind.f64 (fop BinOp.mul FloatKind.f64 (fop BinOp.sub FloatKind.f64 (can FloatKind.f64 4602678819172646912) (fop BinOp.sub FloatKind.f64 x (fofInt FloatKind.f64 (ftoInt FloatKind.f64 x IntKind.i64)))) (can FloatKind.f64 4618760256179416344)) (fop BinOp.mul FloatKind.f64 (fop BinOp.sub FloatKind.f64 (can FloatKind.f64 4602678819172646912) (fop BinOp.sub FloatKind.f64 x (fofInt FloatKind.f64 (ftoInt FloatKind.f64 x IntKind.i64)))) (can FloatKind.f64 4618760256179416344))) 8) else bif forder FloatKind.f64 (fop BinOp.sub FloatKind.f64 x (fofInt FloatKind.f64 (ftoInt FloatKind.f64 x IntKind.i64))) (can FloatKind.f64 4602678819172646912) == some Ordering.gt || forder FloatKind.f64 (fop BinOp.sub FloatKind.f64 x (fofInt FloatKind.f64 (ftoInt FloatKind.f64 x IntKind.i64))) (can FloatKind.f64 4602678819172646912) == some Ordering.eq then fneg FloatKind.f64 (fop BinOp.mul FloatKind.f64 (fop BinOp.mul FloatKind.f64 (fop BinOp.sub FloatKind.f64 x (fofInt FloatKind.f64 (ftoInt FloatKind.f64 x IntKind.i64))) (can FloatKind.f64 4618760256179416344)) (sp (fop BinOp.mul FloatKind.f64 (fop BinOp.mul FloatKind.f64 (fop BinOp.sub FloatKind.f64 x (fofInt FloatKind.f64 (ftoInt FloatKind.f64 x IntKind.i64))) (can FloatKind.f64 4618760256179416344)) (fop BinOp.mul FloatKind.f64 (fop BinOp.sub FloatKind.f64 x (fofInt FloatKind.f64 (ftoInt FloatKind.f64 x IntKind.i64))) (can FloatKind.f64 4618760256179416344))) 8)) else fop BinOp.mul FloatKind.f64 (fop BinOp.mul FloatKind.f64 (fop BinOp.sub FloatKind.f64 x (fofInt FloatKind.f64 (ftoInt FloatKind.f64 x IntKind.i64))) (can FloatKind.f64 4618760256179416344)) (sp (fop BinOp.mul FloatKind.f64 (fop BinOp.mul FloatKind.f64 (fop BinOp.sub FloatKind.f64 x (fofInt FloatKind.f64 (ftoInt FloatKind.f64 x IntKind.i64))) (can FloatKind.f64 4618760256179416344)) (fop BinOp.mul FloatKind.f64 (fop BinOp.sub FloatKind.f64 x (fofInt FloatKind.f64 (ftoInt FloatKind.f64 x IntKind.i64))) (can FloatKind.f64 4618760256179416344))) 8))) := by kernel_rfl
noncomputable def s132 : List A → Option (Bool × A)
  | [.flt .f64 x] => some (true, .flt .f64 (sineW x))
  | _ => none
theorem s132_at : EnvAt Try.prog 132 s132 := of_auto cfg31_ok lp132_ok Try.func132 (by kernel_rfl) (by kernel_rfl) fun ds cc rr h hc => by
  unfold s132 at h
  split at h
  · rename_i x
    simp only [Option.some.injEq, Prod.mk.injEq] at h
    obtain ⟨rfl, rfl⟩ := h
    refine auto_fit (auto132 x) ?_ ?_
    · show A.flt .f64 (bif (forder .f64 (fop .sub .f64 x x) (can .f64 0) != some Ordering.eq) then qnan .f64 else bif bigF x then can .f64 0 else treeS (fun g i => bif geF g (can .f64 4602678819172646912) then fneg .f64 (sineP (fop .mul .f64 i (can .f64 4618760256179416344))) else sineP (fop .mul .f64 i (can .f64 4618760256179416344))) (fracF x)) = _
      rw [num_test, treeS_eq]
      unfold sineW
      cases num .f64 x <;> rfl
    · show (bif (forder .f64 (fop .sub .f64 x x) (can .f64 0) != some Ordering.eq) then true else bif bigF x then true else ftoIntOk .f64 x .i64 && treeS (fun g i => Nat.beq (can .f64 4607182418800017408) (sp (fop .mul .f64 (fop .mul .f64 i (can .f64 4618760256179416344)) (fop .mul .f64 i (can .f64 4618760256179416344))) 0) && decide (8 = kI 0) && bif geF g (can .f64 4602678819172646912) then true else true) (fracF x)) = true
      rw [num_test, treeS_eq]
      cases hn : num .f64 x
      · rfl
      · cases hb : bigF x
        · rw [(frac_ok hn hb).1]
          show (Nat.beq (can .f64 4607182418800017408) (can .f64 4607182418800017408) && true && _) = true
          rw [Nat.beq_refl, Bool.cond_self]; rfl
        · rfl
  · cases h

noncomputable def lp80 : List (Nat × (St → T)) := [(0, N80)]
theorem lp80_ok : LpOK Try.prog (look lp80) (bodyOf Try.f80) := lp_loops (by kernel_rfl) (by kernel_rfl) fun p hp => by
  simp only [lp80, List.mem_cons, List.not_mem_nil, or_false] at hp
  rcases hp with rfl
  · exact loopN80
theorem auto80 (x : Nat) : autoLp cfg31 (look lp80) Try.f80 [.flt .f32 x] =
    some (bif !fin x then true else !isNaN FloatKind.f64 (fcvt FloatKind.f32 FloatKind.f64 x) && bif forder FloatKind.f64 (absN (fcvt FloatKind.f32 FloatKind.f64 x)) (can FloatKind.f64 4841369599423283200) == some Ordering.gt || forder FloatKind.f64 (absN (fcvt FloatKind.f32 FloatKind.f64 x)) (can FloatKind.f64 4841369599423283200) == some Ordering.eq then true else ftoIntOk FloatKind.f64 (fcvt FloatKind.f32 FloatKind.f64 x) IntKind.i64 && bif forder FloatKind.f64 (fop BinOp.sub FloatKind.f64 (fcvt FloatKind.f32 FloatKind.f64 x) (fofInt FloatKind.f64 (ftoInt FloatKind.f64 (fcvt FloatKind.f32 FloatKind.f64 x) IntKind.i64))) (can FloatKind.f64 0) == some Ordering.lt then bif forder FloatKind.f64 (fop BinOp.add FloatKind.f64 (fop BinOp.sub FloatKind.f64 (fcvt FloatKind.f32 FloatKind.f64 x) (fofInt FloatKind.f64 (ftoInt FloatKind.f64 (fcvt FloatKind.f32 FloatKind.f64 x) IntKind.i64))) (can FloatKind.f64 4607182418800017408)) (can FloatKind.f64 4602678819172646912) == some Ordering.gt || forder FloatKind.f64 (fop BinOp.add FloatKind.f64 (fop BinOp.sub FloatKind.f64 (fcvt FloatKind.f32 FloatKind.f64 x) (fofInt FloatKind.f64 (ftoInt FloatKind.f64 (fcvt FloatKind.f32 FloatKind.f64 x) IntKind.i64))) (can FloatKind.f64 4607182418800017408)) (can FloatKind.f64 4602678819172646912) == some Ordering.eq then bif forder FloatKind.f64 (fop BinOp.sub FloatKind.f64 (fop BinOp.add FloatKind.f64 (fop BinOp.sub FloatKind.f64 (fcvt FloatKind.f32 FloatKind.f64 x) (fofInt FloatKind.f64 (ftoInt FloatKind.f64 (fcvt FloatKind.f32 FloatKind.f64 x) IntKind.i64))) (can FloatKind.f64 4607182418800017408)) (can FloatKind.f64 4602678819172646912)) (can FloatKind.f64 4598175219545276416) == some Ordering.gt then (can FloatKind.f64 4607182418800017408).beq (sp (fop BinOp.mul FloatKind.f64 (fop BinOp.mul FloatKind.f64 (fop BinOp.sub FloatKind.f64 (can FloatKind.f64 4602678819172646912) (fop BinOp.sub FloatKind.f64 (fop BinOp.add FloatKind.f64 (fop BinOp.sub FloatKind.f64 (fcvt FloatKind.f32 FloatKind.f64 x) (fofInt FloatKind.f64 (ftoInt FloatKind.f64 (fcvt FloatKind.f32 FloatKind.f64 x) IntKind.i64))) (can FloatKind.f64 4607182418800017408)) (can FloatKind.f64 4602678819172646912))) (can FloatKind.f64 4618760256179416344)) (fop BinOp.mul FloatKind.f64 (fop BinOp.sub FloatKind.f64 (can FloatKind.f64 4602678819172646912) (fop BinOp.sub FloatKind.f64 (fop BinOp.add FloatKind.f64 (fop BinOp.sub FloatKind.f64 (fcvt FloatKind.f32 FloatKind.f64 x) (fofInt FloatKind.f64 (ftoInt FloatKind.f64 (fcvt FloatKind.f32 FloatKind.f64 x) IntKind.i64))) (can FloatKind.f64 4607182418800017408)) (can FloatKind.f64 4602678819172646912))) (can FloatKind.f64 4618760256179416344))) 0) && (can FloatKind.f64 4620693217682128896).beq (kF 0) && bif forder FloatKind.f64 (fop BinOp.add FloatKind.f64 (fop BinOp.sub FloatKind.f64 (fcvt FloatKind.f32 FloatKind.f64 x) (fofInt FloatKind.f64 (ftoInt FloatKind.f64 (fcvt FloatKind.f32 FloatKind.f64 x) IntKind.i64))) (can FloatKind.f64 4607182418800017408)) (can FloatKind.f64 4602678819172646912) == some Ordering.gt || forder FloatKind.f64 (fop BinOp.add FloatKind.f64 (fop BinOp.sub FloatKind.f64 (fcvt FloatKind.f32 FloatKind.f64 x) (fofInt FloatKind.f64 (ftoInt FloatKind.f64 (fcvt FloatKind.f32 FloatKind.f64 x) IntKind.i64))) (can FloatKind.f64 4607182418800017408)) (can FloatKind.f64 4602678819172646912) == some Ordering.eq then fcvtOk FloatKind.f64 FloatKind.f32 (fneg FloatKind.f64 (fop BinOp.mul FloatKind.f64 (fop BinOp.mul FloatKind.f64 (fop BinOp.sub FloatKind.f64 (can FloatKind.f64 4602678819172646912) (fop BinOp.sub FloatKind.f64 (fop BinOp.add FloatKind.f64 (fop BinOp.sub FloatKind.f64 (fcvt FloatKind.f32 FloatKind.f64 x) (fofInt FloatKind.f64 (ftoInt FloatKind.f64 (fcvt FloatKind.f32 FloatKind.f64 x) IntKind.i64))) (can FloatKind.f64 4607182418800017408)) (can FloatKind.f64 4602678819172646912))) (can FloatKind.f64 4618760256179416344)) (sp (fop BinOp.mul FloatKind.f64 (fop BinOp.mul FloatKind.f64 (fop BinOp.sub FloatKind.f64 (can FloatKind.f64 4602678819172646912) (fop BinOp.sub FloatKind.f64 (fop BinOp.add FloatKind.f64 (fop BinOp.sub FloatKind.f64 (fcvt FloatKind.f32 FloatKind.f64 x) (fofInt FloatKind.f64 (ftoInt FloatKind.f64 (fcvt FloatKind.f32 FloatKind.f64 x) IntKind.i64))) (can FloatKind.f64 4607182418800017408)) (can FloatKind.f64 4602678819172646912))) (can FloatKind.f64 4618760256179416344)) (fop BinOp.mul FloatKind.f64 (fop BinOp.sub FloatKind.f64 (can FloatKind.f64 4602678819172646912) (fop BinOp.sub FloatKind.f64 (fop BinOp.add FloatKind.f64 (fop BinOp.sub FloatKind.f64 (fcvt FloatKind.f32 FloatKind.f64 x) (fofInt FloatKind.f64 (ftoInt FloatKind.f64 (fcvt FloatKind.f32 FloatKind.f64 x) IntKind.i64))) (can FloatKind.f64 4607182418800017408)) (can FloatKind.f64 4602678819172646912))) (can FloatKind.f64 4618760256179416344))) 8))) && true else fcvtOk FloatKind.f64 FloatKind.f32 (fop BinOp.mul FloatKind.f64 (fop BinOp.mul FloatKind.f64 (fop BinOp.sub FloatKind.f64 (can FloatKind.f64 4602678819172646912) (fop BinOp.sub FloatKind.f64 (fop BinOp.add FloatKind.f64 (fop BinOp.sub FloatKind.f64 (fcvt FloatKind.f32 FloatKind.f64 x) (fofInt FloatKind.f64 (ftoInt FloatKind.f64 (fcvt FloatKind.f32 FloatKind.f64 x) IntKind.i64))) (can FloatKind.f64 4607182418800017408)) (can FloatKind.f64 4602678819172646912))) (can FloatKind.f64 4618760256179416344)) (sp (fop BinOp.mul FloatKind.f64 (fop BinOp.mul FloatKind.f64 (fop BinOp.sub FloatKind.f64 (can FloatKind.f64 4602678819172646912) (fop BinOp.sub FloatKind.f64 (fop BinOp.add FloatKind.f64 (fop BinOp.sub FloatKind.f64 (fcvt FloatKind.f32 FloatKind.f64 x) (fofInt FloatKind.f64 (ftoInt FloatKind.f64 (fcvt FloatKind.f32 FloatKind.f64 x) IntKind.i64))) (can FloatKind.f64 4607182418800017408)) (can FloatKind.f64 4602678819172646912))) (can FloatKind.f64 4618760256179416344)) (fop BinOp.mul FloatKind.f64 (fop BinOp.sub FloatKind.f64 (can FloatKind.f64 4602678819172646912) (fop BinOp.sub FloatKind.f64 (fop BinOp.add FloatKind.f64 (fop BinOp.sub FloatKind.f64 (fcvt FloatKind.f32 FloatKind.f64 x) (fofInt FloatKind.f64 (ftoInt FloatKind.f64 (fcvt FloatKind.f32 FloatKind.f64 x) IntKind.i64))) (can FloatKind.f64 4607182418800017408)) (can FloatKind.f64 4602678819172646912))) (can FloatKind.f64 4618760256179416344))) 8)) && true else (can FloatKind.f64 4607182418800017408).beq (sp (fop BinOp.mul FloatKind.f64 (fop BinOp.mul FloatKind.f64 (fop BinOp.sub FloatKind.f64 (fop BinOp.add FloatKind.f64 (fop BinOp.sub FloatKind.f64 (fcvt FloatKind.f32 FloatKind.f64 x) (fofInt FloatKind.f64 (ftoInt FloatKind.f64 (fcvt FloatKind.f32 FloatKind.f64 x) IntKind.i64))) (can FloatKind.f64 4607182418800017408)) (can FloatKind.f64 4602678819172646912)) (can FloatKind.f64 4618760256179416344)) (fop BinOp.mul FloatKind.f64 (fop BinOp.sub FloatKind.f64 (fop BinOp.add FloatKind.f64 (fop BinOp.sub FloatKind.f64 (fcvt FloatKind.f32 FloatKind.f64 x) (fofInt FloatKind.f64 (ftoInt FloatKind.f64 (fcvt FloatKind.f32 FloatKind.f64 x) IntKind.i64))) (can FloatKind.f64 4607182418800017408)) (can FloatKind.f64 4602678819172646912)) (can FloatKind.f64 4618760256179416344))) 0) && (can FloatKind.f64 4620693217682128896).beq (kF 0) && bif forder FloatKind.f64 (fop BinOp.add FloatKind.f64 (fop BinOp.sub FloatKind.f64 (fcvt FloatKind.f32 FloatKind.f64 x) (fofInt FloatKind.f64 (ftoInt FloatKind.f64 (fcvt FloatKind.f32 FloatKind.f64 x) IntKind.i64))) (can FloatKind.f64 4607182418800017408)) (can FloatKind.f64 4602678819172646912) == some Ordering.gt || forder FloatKind.f64 (fop BinOp.add FloatKind.f64 (fop BinOp.sub FloatKind.f64 (fcvt FloatKind.f32 FloatKind.f64 x) (fofInt FloatKind.f64 (ftoInt FloatKind.f64 (fcvt FloatKind.f32 FloatKind.f64 x) IntKind.i64))) (can FloatKind.f64 4607182418800017408)) (can FloatKind.f64 4602678819172646912) == some Ordering.eq then fcvtOk FloatKind.f64 FloatKind.f32 (fneg FloatKind.f64 (fop BinOp.mul FloatKind.f64 (fop BinOp.mul FloatKind.f64 (fop BinOp.sub FloatKind.f64 (fop BinOp.add FloatKind.f64 (fop BinOp.sub FloatKind.f64 (fcvt FloatKind.f32 FloatKind.f64 x) (fofInt FloatKind.f64 (ftoInt FloatKind.f64 (fcvt FloatKind.f32 FloatKind.f64 x) IntKind.i64))) (can FloatKind.f64 4607182418800017408)) (can FloatKind.f64 4602678819172646912)) (can FloatKind.f64 4618760256179416344)) (sp (fop BinOp.mul FloatKind.f64 (fop BinOp.mul FloatKind.f64 (fop BinOp.sub FloatKind.f64 (fop BinOp.add FloatKind.f64 (fop BinOp.sub FloatKind.f64 (fcvt FloatKind.f32 FloatKind.f64 x) (fofInt FloatKind.f64 (ftoInt FloatKind.f64 (fcvt FloatKind.f32 FloatKind.f64 x) IntKind.i64))) (can FloatKind.f64 4607182418800017408)) (can FloatKind.f64 4602678819172646912)) (can FloatKind.f64 4618760256179416344)) (fop BinOp.mul FloatKind.f64 (fop BinOp.sub FloatKind.f64 (fop BinOp.add FloatKind.f64 (fop BinOp.sub FloatKind.f64 (fcvt FloatKind.f32 FloatKind.f64 x) (fofInt FloatKind.f64 (ftoInt FloatKind.f64 (fcvt FloatKind.f32 FloatKind.f64 x) IntKind.i64))) (can FloatKind.f64 4607182418800017408)) (can FloatKind.f64 4602678819172646912)) (can FloatKind.f64 4618760256179416344))) 8))) && true else fcvtOk FloatKind.f64 FloatKind.f32 (fop BinOp.mul FloatKind.f64 (fop BinOp.mul FloatKind.f64 (fop BinOp.sub FloatKind.f64 (fop BinOp.add FloatKind.f64 (fop BinOp.sub FloatKind.f64 (fcvt FloatKind.f32 FloatKind.f64 x) (fofInt FloatKind.f64 (ftoInt FloatKind.f64 (fcvt FloatKind.f32 FloatKind.f64 x) IntKind.i64))) (can FloatKind.f64 4607182418800017408)) (can FloatKind.f64 4602678819172646912)) (can FloatKind.f64 4618760256179416344)) (sp (fop BinOp.mul FloatKind.f64 (fop BinOp.mul FloatKind.f64 (fop BinOp.sub FloatKind.f64 (fop BinOp.add FloatKind.f64 (fop BinOp.sub FloatKind.f64 (fcvt FloatKind.f32 FloatKind.f64 x) (fofInt FloatKind.f64 (ftoInt FloatKind.f64 (fcvt FloatKind.f32 FloatKind.f64 x) IntKind.i64))) (can FloatKind.f64 4607182418800017408)) (can FloatKind.f64 4602678819172646912)) (can FloatKind.f64 4618760256179416344)) (fop BinOp.mul FloatKind.f64 (fop BinOp.sub FloatKind.f64 (fop BinOp.add FloatKind.f64 (fop BinOp.sub FloatKind.f64 (fcvt FloatKind.f32 FloatKind.f64 x) (fofInt FloatKind.f64 (ftoInt FloatKind.f64 (fcvt FloatKind.f32 FloatKind.f64 x) IntKind.i64))) (can FloatKind.f64 4607182418800017408)) (can FloatKind.f64 4602678819172646912)) (can FloatKind.f64 4618760256179416344))) 8)) && true else bif forder FloatKind.f64 (fop BinOp.add FloatKind.f64 (fop BinOp.sub FloatKind.f64 (fcvt FloatKind.f32 FloatKind.f64 x) (fofInt FloatKind.f64 (ftoInt FloatKind.f64 (fcvt FloatKind.f32 FloatKind.f64 x) IntKind.i64))) (can FloatKind.f64 4607182418800017408)) (can FloatKind.f64 4598175219545276416) == some Ordering.gt then (can FloatKind.f64 4607182418800017408).beq (sp (fop BinOp.mul FloatKind.f64 (fop BinOp.mul FloatKind.f64 (fop BinOp.sub FloatKind.f64 (can FloatKind.f64 4602678819172646912) (fop BinOp.add FloatKind.f64 (fop BinOp.sub FloatKind.f64 (fcvt FloatKind.f32 FloatKind.f64 x) (fofInt FloatKind.f64 (ftoInt FloatKind.f64 (fcvt FloatKind.f32 FloatKind.f64 x) IntKind.i64))) (can FloatKind.f64 4607182418800017408))) (can FloatKind.f64 4618760256179416344)) (fop BinOp.mul FloatKind.f64 (fop BinOp.sub FloatKind.f64 (can FloatKind.f64 4602678819172646912) (fop BinOp.add FloatKind.f64 (fop BinOp.sub FloatKind.f64 (fcvt FloatKind.f32 FloatKind.f64 x) (fofInt FloatKind.f64 (ftoInt FloatKind.f64 (fcvt FloatKind.f32 FloatKind.f64 x) IntKind.i64))) (can FloatKind.f64 4607182418800017408))) (can FloatKind.f64 4618760256179416344))) 0) && (can FloatKind.f64 4620693217682128896).beq (kF 0) && bif forder FloatKind.f64 (fop BinOp.add FloatKind.f64 (fop BinOp.sub FloatKind.f64 (fcvt FloatKind.f32 FloatKind.f64 x) (fofInt FloatKind.f64 (ftoInt FloatKind.f64 (fcvt FloatKind.f32 FloatKind.f64 x) IntKind.i64))) (can FloatKind.f64 4607182418800017408)) (can FloatKind.f64 4602678819172646912) == some Ordering.gt || forder FloatKind.f64 (fop BinOp.add FloatKind.f64 (fop BinOp.sub FloatKind.f64 (fcvt FloatKind.f32 FloatKind.f64 x) (fofInt FloatKind.f64 (ftoInt FloatKind.f64 (fcvt FloatKind.f32 FloatKind.f64 x) IntKind.i64))) (can FloatKind.f64 4607182418800017408)) (can FloatKind.f64 4602678819172646912) == some Ordering.eq then fcvtOk FloatKind.f64 FloatKind.f32 (fneg FloatKind.f64 (fop BinOp.mul FloatKind.f64 (fop BinOp.mul FloatKind.f64 (fop BinOp.sub FloatKind.f64 (can FloatKind.f64 4602678819172646912) (fop BinOp.add FloatKind.f64 (fop BinOp.sub FloatKind.f64 (fcvt FloatKind.f32 FloatKind.f64 x) (fofInt FloatKind.f64 (ftoInt FloatKind.f64 (fcvt FloatKind.f32 FloatKind.f64 x) IntKind.i64))) (can FloatKind.f64 4607182418800017408))) (can FloatKind.f64 4618760256179416344)) (sp (fop BinOp.mul FloatKind.f64 (fop BinOp.mul FloatKind.f64 (fop BinOp.sub FloatKind.f64 (can FloatKind.f64 4602678819172646912) (fop BinOp.add FloatKind.f64 (fop BinOp.sub FloatKind.f64 (fcvt FloatKind.f32 FloatKind.f64 x) (fofInt FloatKind.f64 (ftoInt FloatKind.f64 (fcvt FloatKind.f32 FloatKind.f64 x) IntKind.i64))) (can FloatKind.f64 4607182418800017408))) (can FloatKind.f64 4618760256179416344)) (fop BinOp.mul FloatKind.f64 (fop BinOp.sub FloatKind.f64 (can FloatKind.f64 4602678819172646912) (fop BinOp.add FloatKind.f64 (fop BinOp.sub FloatKind.f64 (fcvt FloatKind.f32 FloatKind.f64 x) (fofInt FloatKind.f64 (ftoInt FloatKind.f64 (fcvt FloatKind.f32 FloatKind.f64 x) IntKind.i64))) (can FloatKind.f64 4607182418800017408))) (can FloatKind.f64 4618760256179416344))) 8))) && true else fcvtOk FloatKind.f64 FloatKind.f32 (fop BinOp.mul FloatKind.f64 (fop BinOp.mul FloatKind.f64 (fop BinOp.sub FloatKind.f64 (can FloatKind.f64 4602678819172646912) (fop BinOp.add FloatKind.f64 (fop BinOp.sub FloatKind.f64 (fcvt FloatKind.f32 FloatKind.f64 x) (fofInt FloatKind.f64 (ftoInt FloatKind.f64 (fcvt FloatKind.f32 FloatKind.f64 x) IntKind.i64))) (can FloatKind.f64 4607182418800017408))) (can FloatKind.f64 4618760256179416344)) (sp (fop BinOp.mul FloatKind.f64 (fop BinOp.mul FloatKind.f64 (fop BinOp.sub FloatKind.f64 (can FloatKind.f64 4602678819172646912) (fop BinOp.add FloatKind.f64 (fop BinOp.sub FloatKind.f64 (fcvt FloatKind.f32 FloatKind.f64 x) (fofInt FloatKind.f64 (ftoInt FloatKind.f64 (fcvt FloatKind.f32 FloatKind.f64 x) IntKind.i64))) (can FloatKind.f64 4607182418800017408))) (can FloatKind.f64 4618760256179416344)) (fop BinOp.mul FloatKind.f64 (fop BinOp.sub FloatKind.f64 (can FloatKind.f64 4602678819172646912) (fop BinOp.add FloatKind.f64 (fop BinOp.sub FloatKind.f64 (fcvt FloatKind.f32 FloatKind.f64 x) (fofInt FloatKind.f64 (ftoInt FloatKind.f64 (fcvt FloatKind.f32 FloatKind.f64 x) IntKind.i64))) (can FloatKind.f64 4607182418800017408))) (can FloatKind.f64 4618760256179416344))) 8)) && true else (can FloatKind.f64 4607182418800017408).beq (sp (fop BinOp.mul FloatKind.f64 (fop BinOp.mul FloatKind.f64 (fop BinOp.add FloatKind.f64 (fop BinOp.sub FloatKind.f64 (fcvt FloatKind.f32 FloatKind.f64 x) (fofInt FloatKind.f64 (ftoInt FloatKind.f64 (fcvt FloatKind.f32 FloatKind.f64 x) IntKind.i64))) (can FloatKind.f64 4607182418800017408)) (can FloatKind.f64 4618760256179416344)) (fop BinOp.mul FloatKind.f64 (fop BinOp.add FloatKind.f64 (fop BinOp.sub FloatKind.f64 (fcvt FloatKind.f32 FloatKind.f64 x) (fofInt FloatKind.f64 (ftoInt FloatKind.f64 (fcvt FloatKind.f32 FloatKind.f64 x) IntKind.i64))) (can FloatKind.f64 4607182418800017408)) (can FloatKind.f64 4618760256179416344))) 0) && (can FloatKind.f64 4620693217682128896).beq (kF 0) && bif forder FloatKind.f64 (fop BinOp.add FloatKind.f64 (fop BinOp.sub FloatKind.f64 (fcvt FloatKind.f32 FloatKind.f64 x) (fofInt FloatKind.f64 (ftoInt FloatKind.f64 (fcvt FloatKind.f32 FloatKind.f64 x) IntKind.i64))) (can FloatKind.f64 4607182418800017408)) (can FloatKind.f64 4602678819172646912) == some Ordering.gt || forder FloatKind.f64 (fop BinOp.add FloatKind.f64 (fop BinOp.sub FloatKind.f64 (fcvt FloatKind.f32 FloatKind.f64 x) (fofInt FloatKind.f64 (ftoInt FloatKind.f64 (fcvt FloatKind.f32 FloatKind.f64 x) IntKind.i64))) (can FloatKind.f64 4607182418800017408)) (can FloatKind.f64 4602678819172646912) == some Ordering.eq then fcvtOk FloatKind.f64 FloatKind.f32 (fneg FloatKind.f64 (fop BinOp.mul FloatKind.f64 (fop BinOp.mul FloatKind.f64 (fop BinOp.add FloatKind.f64 (fop BinOp.sub FloatKind.f64 (fcvt FloatKind.f32 FloatKind.f64 x) (fofInt FloatKind.f64 (ftoInt FloatKind.f64 (fcvt FloatKind.f32 FloatKind.f64 x) IntKind.i64))) (can FloatKind.f64 4607182418800017408)) (can FloatKind.f64 4618760256179416344)) (sp (fop BinOp.mul FloatKind.f64 (fop BinOp.mul FloatKind.f64 (fop BinOp.add FloatKind.f64 (fop BinOp.sub FloatKind.f64 (fcvt FloatKind.f32 FloatKind.f64 x) (fofInt FloatKind.f64 (ftoInt FloatKind.f64 (fcvt FloatKind.f32 FloatKind.f64 x) IntKind.i64))) (can FloatKind.f64 4607182418800017408)) (can FloatKind.f64 4618760256179416344)) (fop BinOp.mul FloatKind.f64 (fop BinOp.add FloatKind.f64 (fop BinOp.sub FloatKind.f64 (fcvt FloatKind.f32 FloatKind.f64 x) (fofInt FloatKind.f64 (ftoInt FloatKind.f64 (fcvt FloatKind.f32 FloatKind.f64 x) IntKind.i64))) (can FloatKind.f64 4607182418800017408)) (can FloatKind.f64 4618760256179416344))) 8))) && true else fcvtOk FloatKind.f64 FloatKind.f32 (fop BinOp.mul FloatKind.f64 (fop BinOp.mul FloatKind.f64 (fop BinOp.add FloatKind.f64 (fop BinOp.sub FloatKind.f64 (fcvt FloatKind.f32 FloatKind.f64 x) (fofInt FloatKind.f64 (ftoInt FloatKind.f64 (fcvt FloatKind.f32 FloatKind.f64 x) IntKind.i64))) (can FloatKind.f64 4607182418800017408)) (can FloatKind.f64 4618760256179416344)) (sp (fop BinOp.mul FloatKind.f64 (fop BinOp.mul FloatKind.f64 (fop BinOp.add FloatKind.f64 (fop BinOp.sub FloatKind.f64 (fcvt FloatKind.f32 FloatKind.f64 x) (fofInt FloatKind.f64 (ftoInt FloatKind.f64 (fcvt FloatKind.f32 FloatKind.f64 x) IntKind.i64))) (can FloatKind.f64 4607182418800017408)) (can FloatKind.f64 4618760256179416344)) (fop BinOp.mul FloatKind.f64 (fop BinOp.add FloatKind.f64 (fop BinOp.sub FloatKind.f64 (fcvt FloatKind.f32 FloatKind.f64 x) (fofInt FloatKind.f64 (ftoInt FloatKind.f64 (fcvt FloatKind.f32 FloatKind.f64 x) IntKind.i64))) (can FloatKind.f64 4607182418800017408)) (can FloatKind.f64 4618760256179416344))) 8)) && true else bif forder FloatKind.f64 (fop BinOp.sub FloatKind.f64 (fcvt FloatKind.f32 FloatKind.f64 x) (fofInt FloatKind.f64 (ftoInt FloatKind.f64 (fcvt FloatKind.f32 FloatKind.f64 x) IntKind.i64))) (can FloatKind.f64 4602678819172646912) == some Ordering.gt || forder FloatKind.f64 (fop BinOp.sub FloatKind.f64 (fcvt FloatKind.f32 FloatKind.f64 x) (fofInt FloatKind.f64 (ftoInt FloatKind.f64 (fcvt FloatKind.f32 FloatKind.f64 x) IntKind.i64))) (can FloatKind.f64 4602678819172646912) == some Ordering.eq then bif forder FloatKind.f64 (fop BinOp.sub FloatKind.f64 (fop BinOp.sub FloatKind.f64 (fcvt FloatKind.f32 FloatKind.f64 x) (fofInt FloatKind.f64 (ftoInt FloatKind.f64 (fcvt FloatKind.f32 FloatKind.f64 x) IntKind.i64))) (can FloatKind.f64 4602678819172646912)) (can FloatKind.f64 4598175219545276416) == some Ordering.gt then (can FloatKind.f64 4607182418800017408).beq (sp (fop BinOp.mul FloatKind.f64 (fop BinOp.mul FloatKind.f64 (fop BinOp.sub FloatKind.f64 (can FloatKind.f64 4602678819172646912) (fop BinOp.sub FloatKind.f64 (fop BinOp.sub FloatKind.f64 (fcvt FloatKind.f32 FloatKind.f64 x) (fofInt FloatKind.f64 (ftoInt FloatKind.f64 (fcvt FloatKind.f32 FloatKind.f64 x) IntKind.i64))) (can FloatKind.f64 4602678819172646912))) (can FloatKind.f64 4618760256179416344)) (fop BinOp.mul FloatKind.f64 (fop BinOp.sub FloatKind.f64 (can FloatKind.f64 4602678819172646912) (fop BinOp.sub FloatKind.f64 (fop BinOp.sub FloatKind.f64 (fcvt FloatKind.f32 FloatKind.f64 x) (fofInt FloatKind.f64 (ftoInt FloatKind.f64 (fcvt FloatKind.f32 FloatKind.f64 x) IntKind.i64))) (can FloatKind.f64 4602678819172646912))) (can FloatKind.f64 4618760256179416344))) 0) && (can FloatKind.f64 4620693217682128896).beq (kF 0) && bif forder FloatKind.f64 (fop BinOp.sub FloatKind.f64 (fcvt FloatKind.f32 FloatKind.f64 x) (fofInt FloatKind.f64 (ftoInt FloatKind.f64 (fcvt FloatKind.f32 FloatKind.f64 x) IntKind.i64))) (can FloatKind.f64 4602678819172646912) == some Ordering.gt || forder FloatKind.f64 (fop BinOp.sub FloatKind.f64 (fcvt FloatKind.f32 FloatKind.f64 x) (fofInt FloatKind.f64 (ftoInt FloatKind.f64 (fcvt FloatKind.f32 FloatKind.f64 x) IntKind.i64))) (can FloatKind.f64 4602678819172646912) == some Ordering.eq then fcvtOk FloatKind.f64 FloatKind.f32 (fneg FloatKind.f64 (fop BinOp.mul FloatKind.f64 (fop BinOp.mul FloatKind.f64 (fop BinOp.sub FloatKind.f64 (can FloatKind.f64 4602678819172646912) (fop BinOp.sub FloatKind.f64 (fop BinOp.sub FloatKind.f64 (fcvt FloatKind.f32 FloatKind.f64 x) (fofInt FloatKind.f64 (ftoInt FloatKind.f64 (fcvt FloatKind.f32 FloatKind.f64 x) IntKind.i64))) (can FloatKind.f64 4602678819172646912))) (can FloatKind.f64 4618760256179416344)) (sp (fop BinOp.mul FloatKind.f64 (fop BinOp.mul FloatKind.f64 (fop BinOp.sub FloatKind.f64 (can FloatKind.f64 4602678819172646912) (fop BinOp.sub FloatKind.f64 (fop BinOp.sub FloatKind.f64 (fcvt FloatKind.f32 FloatKind.f64 x) (fofInt FloatKind.f64 (ftoInt FloatKind.f64 (fcvt FloatKind.f32 FloatKind.f64 x) IntKind.i64))) (can FloatKind.f64 4602678819172646912))) (can FloatKind.f64 4618760256179416344)) (fop BinOp.mul FloatKind.f64 (fop BinOp.sub FloatKind.f64 (can FloatKind.f64 4602678819172646912) (fop BinOp.sub FloatKind.f64 (fop BinOp.sub FloatKind.f64 (fcvt FloatKind.f32 FloatKind.f64 x) (fofInt FloatKind.f64 (ftoInt FloatKind.f64 (fcvt FloatKind.f32 FloatKind.f64 x) IntKind.i64))) (can FloatKind.f64 4602678819172646912))) (can FloatKind.f64 4618760256179416344))) 8))) && true else fcvtOk FloatKind.f64 FloatKind.f32 (fop BinOp.mul FloatKind.f64 (fop BinOp.mul FloatKind.f64 (fop BinOp.sub FloatKind.f64 (can FloatKind.f64 4602678819172646912) (fop BinOp.sub FloatKind.f64 (fop BinOp.sub FloatKind.f64 (fcvt FloatKind.f32 FloatKind.f64 x) (fofInt FloatKind.f64 (ftoInt FloatKind.f64 (fcvt FloatKind.f32 FloatKind.f64 x) IntKind.i64))) (can FloatKind.f64 4602678819172646912))) (can FloatKind.f64 4618760256179416344)) (sp (fop BinOp.mul FloatKind.f64 (fop BinOp.mul FloatKind.f64 (fop BinOp.sub FloatKind.f64 (can FloatKind.f64 4602678819172646912) (fop BinOp.sub FloatKind.f64 (fop BinOp.sub FloatKind.f64 (fcvt FloatKind.f32 FloatKind.f64 x) (fofInt FloatKind.f64 (ftoInt FloatKind.f64 (fcvt FloatKind.f32 FloatKind.f64 x) IntKind.i64))) (can FloatKind.f64 4602678819172646912))) (can FloatKind.f64 4618760256179416344)) (fop BinOp.mul FloatKind.f64 (fop BinOp.sub FloatKind.f64 (can FloatKind.f64 4602678819172646912) (fop BinOp.sub FloatKind.f64 (fop BinOp.sub FloatKind.f64 (fcvt FloatKind.f32 FloatKind.f64 x) (fofInt FloatKind.f64 (ftoInt FloatKind.f64 (fcvt FloatKind.f32 FloatKind.f64 x) IntKind.i64))) (can FloatKind.f64 4602678819172646912))) (can FloatKind.f64 4618760256179416344))) 8)) && true else (can FloatKind.f64 4607182418800017408).beq (sp (fop BinOp.mul FloatKind.f64 (fop BinOp.mul FloatKind.f64 (fop BinOp.sub FloatKind.f64 (fop BinOp.sub FloatKind.f64 (fcvt FloatKind.f32 FloatKind.f64 x) (fofInt FloatKind.f64 (ftoInt FloatKind.f64 (fcvt FloatKind.f32 FloatKind.f64 x) IntKind.i64))) (can FloatKind.f64 4602678819172646912)) (can FloatKind.f64 4618760256179416344)) (fop BinOp.mul FloatKind.f64 (fop BinOp.sub FloatKind.f64 (fop BinOp.sub FloatKind.f64 (fcvt FloatKind.f32 FloatKind.f64 x) (fofInt FloatKind.f64 (ftoInt FloatKind.f64 (fcvt FloatKind.f32 FloatKind.f64 x) IntKind.i64))) (can FloatKind.f64 4602678819172646912)) (can FloatKind.f64 4618760256179416344))) 0) && (can FloatKind.f64 4620693217682128896).beq (kF 0) && bif forder FloatKind.f64 (fop BinOp.sub FloatKind.f64 (fcvt FloatKind.f32 FloatKind.f64 x) (fofInt FloatKind.f64 (ftoInt FloatKind.f64 (fcvt FloatKind.f32 FloatKind.f64 x) IntKind.i64))) (can FloatKind.f64 4602678819172646912) == some Ordering.gt || forder FloatKind.f64 (fop BinOp.sub FloatKind.f64 (fcvt FloatKind.f32 FloatKind.f64 x) (fofInt FloatKind.f64 (ftoInt FloatKind.f64 (fcvt FloatKind.f32 FloatKind.f64 x) IntKind.i64))) (can FloatKind.f64 4602678819172646912) == some Ordering.eq then fcvtOk FloatKind.f64 FloatKind.f32 (fneg FloatKind.f64 (fop BinOp.mul FloatKind.f64 (fop BinOp.mul FloatKind.f64 (fop BinOp.sub FloatKind.f64 (fop BinOp.sub FloatKind.f64 (fcvt FloatKind.f32 FloatKind.f64 x) (fofInt FloatKind.f64 (ftoInt FloatKind.f64 (fcvt FloatKind.f32 FloatKind.f64 x) IntKind.i64))) (can FloatKind.f64 4602678819172646912)) (can FloatKind.f64 4618760256179416344)) (sp (fop BinOp.mul FloatKind.f64 (fop BinOp.mul FloatKind.f64 (fop BinOp.sub FloatKind.f64 (fop BinOp.sub FloatKind.f64 (fcvt FloatKind.f32 FloatKind.f64 x) (fofInt FloatKind.f64 (ftoInt FloatKind.f64 (fcvt FloatKind.f32 FloatKind.f64 x) IntKind.i64))) (can FloatKind.f64 4602678819172646912)) (can FloatKind.f64 4618760256179416344)) (fop BinOp.mul FloatKind.f64 (fop BinOp.sub FloatKind.f64 (fop BinOp.sub FloatKind.f64 (fcvt FloatKind.f32 FloatKind.f64 x) (fofInt FloatKind.f64 (ftoInt FloatKind.f64 (fcvt FloatKind.f32 FloatKind.f64 x) IntKind.i64))) (can FloatKind.f64 4602678819172646912)) (can FloatKind.f64 4618760256179416344))) 8))) && true else fcvtOk FloatKind.f64 FloatKind.f32 (fop BinOp.mul FloatKind.f64 (fop BinOp.mul FloatKind.f64 (fop BinOp.sub FloatKind.f64 (fop BinOp.sub FloatKind.f64 (fcvt FloatKind.f32 FloatKind.f64 x) (fofInt FloatKind.f64 (ftoInt FloatKind.f64 (fcvt FloatKind.f32 FloatKind.f64 x) IntKind.i64))) (can FloatKind.f64 4602678819172646912)) (can FloatKind.f64 4618760256179416344)) (sp (fop BinOp.mul FloatKind.f64 (fop BinOp.mul FloatKind.f64 (fop BinOp.sub FloatKind.f64 (fop BinOp.sub FloatKind.f64 (fcvt FloatKind.f32 FloatKind.f64 x) (fofInt FloatKind.f64 (ftoInt FloatKind.f64 (fcvt FloatKind.f32 FloatKind.f64 x) IntKind.i64))) (can FloatKind.f64 4602678819172646912)) (can FloatKind.f64 4618760256179416344)) (fop BinOp.mul FloatKind.f64 (fop BinOp.sub FloatKind.f64 (fop BinOp.sub FloatKind.f64 (fcvt FloatKind.f32 FloatKind.f64 x) (fofInt FloatKind.f64 (ftoInt FloatKind.f64 (fcvt FloatKind.f32 FloatKind.f64 x) IntKind.i64))) (can FloatKind.f64 4602678819172646912)) (can FloatKind.f64 4618760256179416344))) 8)) && true else bif forder FloatKind.f64 (fop BinOp.sub FloatKind.f64 (fcvt FloatKind.f32 FloatKind.f64 x) (fofInt FloatKind.f64 (ftoInt FloatKind.f64 (fcvt FloatKind.f32 FloatKind.f64 x) IntKind.i64))) (can FloatKind.f64 4598175219545276416) == some Ordering.gt then (can FloatKind.f64 4607182418800017408).beq (sp (fop BinOp.mul FloatKind.f64 (fop BinOp.mul FloatKind.f64 (fop BinOp.sub FloatKind.f64 (can FloatKind.f64 4602678819172646912) (fop BinOp.sub FloatKind.f64 (fcvt FloatKind.f32 FloatKind.f64 x) (fofInt FloatKind.f64 (ftoInt FloatKind.f64 (fcvt FloatKind.f32 FloatKind.f64 x) IntKind.i64)))) (can FloatKind.f64 4618760256179416344)) (fop BinOp.mul FloatKind.f64 (fop BinOp.sub FloatKind.f64 (can FloatKind.f64 4602678819172646912) (fop BinOp.sub FloatKind.f64 (fcvt FloatKind.f32 FloatKind.f64 x) (fofInt FloatKind.f64 (ftoInt FloatKind.f64 (fcvt FloatKind.f32 FloatKind.f64 x) IntKind.i64)))) (can FloatKind.f64 4618760256179416344))) 0) && (can FloatKind.f64 4620693217682128896).beq (kF 0) && bif forder FloatKind.f64 (fop BinOp.sub FloatKind.f64 (fcvt FloatKind.f32 FloatKind.f64 x) (fofInt FloatKind.f64 (ftoInt FloatKind.f64 (fcvt FloatKind.f32 FloatKind.f64 x) IntKind.i64))) (can FloatKind.f64 4602678819172646912) == some Ordering.gt || forder FloatKind.f64 (fop BinOp.sub FloatKind.f64 (fcvt FloatKind.f32 FloatKind.f64 x) (fofInt FloatKind.f64 (ftoInt FloatKind.f64 (fcvt FloatKind.f32 FloatKind.f64 x) IntKind.i64))) (can FloatKind.f64 4602678819172646912) == some Ordering.eq then fcvtOk FloatKind.f64 FloatKind.f32 (fneg FloatKind.f64 (fop BinOp.mul FloatKind.f64 (fop BinOp.mul FloatKind.f64 (fop BinOp.sub FloatKind.f64 (can FloatKind.f64 4602678819172646912) (fop BinOp.sub FloatKind.f64 (fcvt FloatKind.f32 FloatKind.f64 x) (fofInt FloatKind.f64 (ftoInt FloatKind.f64 (fcvt FloatKind.f32 FloatKind.f64 x) IntKind.i64)))) (can FloatKind.f64 4618760256179416344)) (sp (fop BinOp.mul FloatKind.f64 (fop BinOp.mul FloatKind.f64 (fop BinOp.sub FloatKind.f64 (can FloatKind.f64 4602678819172646912) (fop BinOp.sub FloatKind.f64 (fcvt FloatKind.f32 FloatKind.f64 x) (fofInt FloatKind.f64 (ftoInt FloatKind.f64 (fcvt FloatKind.f32 FloatKind.f64 x) IntKind.i64)))) (can FloatKind.f64 4618760256179416344)) (fop BinOp.mul FloatKind.f64 (fop BinOp.sub FloatKind.f64 (can FloatKind.f64 4602678819172646912) (fop BinOp.sub FloatKind.f64 (fcvt FloatKind.f32 FloatKind.f64 x) (fofInt FloatKind.f64 (ftoInt FloatKind.f64 (fcvt FloatKind.f32 FloatKind.f64 x) IntKind.i64)))) (can FloatKind.f64 4618760256179416344))) 8))) && true else fcvtOk FloatKind.f64 FloatKind.f32 (fop BinOp.mul FloatKind.f64 (fop BinOp.mul FloatKind.f64 (fop BinOp.sub FloatKind.f64 (can FloatKind.f64 4602678819172646912) (fop BinOp.sub FloatKind.f64 (fcvt FloatKind.f32 FloatKind.f64 x) (fofInt FloatKind.f64 (ftoInt FloatKind.f64 (fcvt FloatKind.f32 FloatKind.f64 x) IntKind.i64)))) (can FloatKind.f64 4618760256179416344)) (sp (fop BinOp.mul FloatKind.f64 (fop BinOp.mul FloatKind.f64 (fop BinOp.sub FloatKind.f64 (can FloatKind.f64 4602678819172646912) (fop BinOp.sub FloatKind.f64 (fcvt FloatKind.f32 FloatKind.f64 x) (fofInt FloatKind.f64 (ftoInt FloatKind.f64 (fcvt FloatKind.f32 FloatKind.f64 x) IntKind.i64)))) (can FloatKind.f64 4618760256179416344)) (fop BinOp.mul FloatKind.f64 (fop BinOp.sub FloatKind.f64 (can FloatKind.f64 4602678819172646912) (fop BinOp.sub FloatKind.f64 (fcvt FloatKind.f32 FloatKind.f64 x) (fofInt FloatKind.f64 (ftoInt FloatKind.f64 (fcvt FloatKind.f32 FloatKind.f64 x) IntKind.i64)))) (can FloatKind.f64 4618760256179416344))) 8)) && true else (can FloatKind.f64 4607182418800017408).beq (sp (fop BinOp.mul FloatKind.f64 (fop BinOp.mul FloatKind.f64 (fop BinOp.sub FloatKind.f64 (fcvt FloatKind.f32 FloatKind.f64 x) (fofInt FloatKind.f64 (ftoInt FloatKind.f64 (fcvt FloatKind.f32 FloatKind.f64 x) IntKind.i64))) (can FloatKind.f64 4618760256179416344)) (fop BinOp.mul FloatKind.f64 (fop BinOp.sub FloatKind.f64 (fcvt FloatKind.f32 FloatKind.f64 x) (fofInt FloatKind.f64 (ftoInt FloatKind.f64 (fcvt FloatKind.f32 FloatKind.f64 x) IntKind.i64))) (can FloatKind.f64 4618760256179416344))) 0) && (can FloatKind.f64 4620693217682128896).beq (kF 0) && bif forder FloatKind.f64 (fop BinOp.sub FloatKind.f64 (fcvt FloatKind.f32 FloatKind.f64 x) (fofInt FloatKind.f64 (ftoInt FloatKind.f64 (fcvt FloatKind.f32 FloatKind.f64 x) IntKind.i64))) (can FloatKind.f64 4602678819172646912) == some Ordering.gt || forder FloatKind.f64 (fop BinOp.sub FloatKind.f64 (fcvt FloatKind.f32 FloatKind.f64 x) (fofInt FloatKind.f64 (ftoInt FloatKind.f64 (fcvt FloatKind.f32 FloatKind.f64 x) IntKind.i64))) (can FloatKind.f64 4602678819172646912) == some Ordering.eq then fcvtOk FloatKind.f64 FloatKind.f32 (fneg FloatKind.f64 (fop BinOp.mul FloatKind.f64 (fop BinOp.mul FloatKind.f64 (fop BinOp.sub FloatKind.f64 (fcvt FloatKind.f32 FloatKind.f64 x) (fofInt FloatKind.f64 (ftoInt FloatKind.f64 (fcvt FloatKind.f32 FloatKind.f64 x) IntKind.i64))) (can FloatKind.f64 4618760256179416344)) (sp (fop BinOp.mul FloatKind.f64 (fop BinOp.mul FloatKind.f64 (fop BinOp.sub FloatKind.f64 (fcvt FloatKind.f32 FloatKind.f64 x) (fofInt FloatKind.f64 (ftoInt FloatKind.f64 (fcvt FloatKind.f32 FloatKind.f64 x) IntKind.i64))) (can FloatKind.f64 4618760256179416344)) (fop BinOp.mul FloatKind.f64 (fop BinOp.sub FloatKind.f64 (fcvt FloatKind.f32 FloatKind.f64 x) (fofInt FloatKind.f64 (ftoInt FloatKind.f64 (fcvt FloatKind.f32 FloatKind.f64 x) IntKind.i64))) (can FloatKind.f64 4618760256179416344))) 8))) && true else fcvtOk FloatKind.f64 FloatKind.f32 (fop BinOp.mul FloatKind.f64 (fop BinOp.mul FloatKind.f64 (fop BinOp.sub FloatKind.f64 (fcvt FloatKind.f32 FloatKind.f64 x) (fofInt FloatKind.f64 (ftoInt FloatKind.f64 (fcvt FloatKind.f32 FloatKind.f64 x) IntKind.i64))) (can FloatKind.f64 4618760256179416344)) (sp (fop BinOp.mul FloatKind.f64 (fop BinOp.mul FloatKind.f64 (fop BinOp.sub FloatKind.f64 (fcvt FloatKind.f32 FloatKind.f64 x) (fofInt FloatKind.f64 (ftoInt FloatKind.f64 (fcvt FloatKind.f32 FloatKind.f64 x) IntKind.i64))) (can FloatKind.f64 4618760256179416344)) (fop BinOp.mul FloatKind.f64 (fop BinOp.sub FloatKind.f64 (fcvt FloatKind.f32 FloatKind.f64 x) (fofInt FloatKind.f64 (ftoInt FloatKind.f64 (fcvt FloatKind.f32 FloatKind.f64 x) IntKind.i64))) (can FloatKind.f64 4618760256179416344))) 8)) && true, A.flt FloatKind.f32 (bif !fin x then qnan FloatKind.f32 else bif forder FloatKind.f64 (absN (fcvt FloatKind.f32 FloatKind.f64 x)) (can FloatKind.f64 4841369599423283200) == some Ordering.gt || forder FloatKind.f64 (absN (fcvt FloatKind.f32 FloatKind.f64 x)) (can FloatKind.f64 4841369599423283200) == some Ordering.eq then can FloatKind.f32 0 else bif forder FloatKind.f64 (fop BinOp.sub FloatKind.f64 (fcvt FloatKind.f32 FloatKind.f64 x) (fofInt FloatKind.f64 (ftoInt FloatKind.f64 (fcvt FloatKind.f32 FloatKind.f64 x) IntKind.i64))) (can FloatKind.f64 0) == some Ordering.lt then bif forder FloatKind.f64 (fop BinOp.add FloatKind.f64 (fop BinOp.sub FloatKind.f64 (fcvt FloatKind.f32 FloatKind.f64 x) (fofInt FloatKind.f64 (ftoInt FloatKind.f64 (fcvt FloatKind.f32 FloatKind.f64 x) IntKind.i64))) (can FloatKind.f64 4607182418800017408)) (can FloatKind.f64 4602678819172646912) == some Ordering.gt || forder FloatKind.f64 (fop BinOp.add FloatKind.f64 (fop BinOp.sub FloatKind.f64 (fcvt FloatKind.f32 FloatKind.f64 x) (fofInt FloatKind.f64 (ftoInt FloatKind.f64 (fcvt FloatKind.f32 FloatKind.f64 x) IntKind.i64))) (can FloatKind.f64 4607182418800017408)) (can FloatKind.f64 4602678819172646912) == some Ordering.eq then bif forder FloatKind.f64 (fop BinOp.sub FloatKind.f64 (fop BinOp.add FloatKind.f64 (fop BinOp.sub FloatKind.f64 (fcvt FloatKind.f32 FloatKind.f64 x) (fofInt FloatKind.f64 (ftoInt FloatKind.f64 (fcvt FloatKind.f32 FloatKind.f64 x) IntKind.i64))) (can FloatKind.f64 4607182418800017408)) (can FloatKind.f64 4602678819172646912)) (can FloatKind.f64 4598175219545276416) == some Ordering.gt then bif forder FloatKind.f64 (fop BinOp.add FloatKind.f64 (fop BinOp.sub FloatKind.f64 (fcvt FloatKind.f32 FloatKind.f64 x) (fofInt FloatKind.f64 (ftoInt FloatKind.f64 (fcvt FloatKind.f32 FloatKind.f64 x) IntKind.i64))) (can FloatKind.f64 4607182418800017408)) (can FloatKind.f64 4602678819172646912) == some Ordering.gt || forder FloatKind.f64 (fop BinOp.add FloatKind.f64 (fop BinOp.sub FloatKind.f64 (fcvt FloatKind.f32 FloatKind.f64 x) (fofInt FloatKind.f64 (ftoInt FloatKind.f64 (fcvt FloatKind.f32 FloatKind.f64 x) IntKind.i64))) (can FloatKind.f64 4607182418800017408)) (can FloatKind.f64 4602678819172646912) == some Ordering.eq then fcvt FloatKind.f64 FloatKind.f32 (fneg FloatKind.f64 (fop BinOp.mul FloatKind.f64 (fop BinOp.mul FloatKind.f64 (fop BinOp.sub FloatKind.f64 (can FloatKind.f64 4602678819172646912) (fop BinOp.sub FloatKind.f64 (fop BinOp.add FloatKind.f64 (fop BinOp.sub FloatKind.f64 (fcvt FloatKind.f32 FloatKind.f64 x) (fofInt FloatKind.f64 (ftoInt FloatKind.f64 (fcvt FloatKind.f32 FloatKind.f64 x) IntKind.i64))) (can FloatKind.f64 4607182418800017408)) (can FloatKind.f64 4602678819172646912))) (can FloatKind.f64 4618760256179416344)) (sp (fop BinOp.mul FloatKind.f64 (fop BinOp.mul FloatKind.f64 (fop BinOp.sub FloatKind.f64 (can FloatKind.f64 4602678819172646912) (fop BinOp.sub FloatKind.f64 (fop BinOp.add FloatKind.f64 (fop BinOp.sub FloatKind.f64 (fcvt FloatKind.f32 FloatKind.f64 x) (fofInt FloatKind.f64 (ftoInt FloatKind.f64 (fcvt FloatKind.f32 FloatKind.f64 x) IntKind.i64))) (can FloatKind.f64 4607182418800017408)) (can FloatKind.f64 4602678819172646912))) (can FloatKind.f64 4618760256179416344)) (fop BinOp.mul FloatKind.f64 (fop BinOp.sub FloatKind.f64 (can FloatKind.f64 4602678819172646912) (fop BinOp.sub FloatKind.f64 (fop BinOp.add FloatKind.f64 (fop BinOp.sub FloatKind.f64 (fcvt FloatKind.f32 FloatKind.f64 x) (fofInt FloatKind.f64 (ftoInt FloatKind.f64 (fcvt FloatKind.f32 FloatKind.f64 x) IntKind.i64))) (can FloatKind.f64 4607182418800017408)) (can FloatKind.f64 4602678819172646912))) (can FloatKind.f64 4618760256179416344))) 8))) else fcvt FloatKind.f64 FloatKind.f32 (fop BinOp.mul FloatKind.f64 (fop BinOp.mul FloatKind.f64 (fop BinOp.sub FloatKind.f64 (can FloatKind.f64 4602678819172646912) (fop BinOp.sub FloatKind.f64 (fop BinOp.add FloatKind.f64 (fop BinOp.sub FloatKind.f64 (fcvt FloatKind.f32 FloatKind.f64 x) (fofInt FloatKind.f64 (ftoInt FloatKind.f64 (fcvt FloatKind.f32 FloatKind.f64 x) IntKind.i64))) (can FloatKind.f64 4607182418800017408)) (can FloatKind.f64 4602678819172646912))) (can FloatKind.f64 4618760256179416344)) (sp (fop BinOp.mul FloatKind.f64 (fop BinOp.mul FloatKind.f64 (fop BinOp.sub FloatKind.f64 (can FloatKind.f64 4602678819172646912) (fop BinOp.sub FloatKind.f64 (fop BinOp.add FloatKind.f64 (fop BinOp.sub FloatKind.f64 (fcvt FloatKind.f32 FloatKind.f64 x) (fofInt FloatKind.f64 (ftoInt FloatKind.f64 (fcvt FloatKind.f32 FloatKind.f64 x) IntKind.i64))) (can FloatKind.f64 4607182418800017408)) (can FloatKind.f64 4602678819172646912))) (can FloatKind.f64 4618760256179416344)) (fop BinOp.mul FloatKind.f64 (fop BinOp.sub FloatKind.f64 (can FloatKind.f64 4602678819172646912) (fop BinOp.sub FloatKind.f64 (fop BinOp.add FloatKind.f64 (fop BinOp.sub FloatKind.f64 (fcvt FloatKind.f32 FloatKind.f64 x) (fofInt FloatKind.f64 (ftoInt FloatKind.f64 (fcvt FloatKind.f32 FloatKind.f64 x) IntKind.i64))) (can FloatKind.f64 4607182418800017408)) (can FloatKind.f64 4602678819172646912))) (can FloatKind.f64 4618760256179416344))) 8)) else bif forder FloatKind.f64 (fop BinOp.add FloatKind.f64 (fop BinOp.sub FloatKind.f64 (fcvt FloatKind.f32 FloatKind.f64 x) (fofInt FloatKind.f64 (ftoInt FloatKind.f64 (fcvt FloatKind.f32 FloatKind.f64 x) IntKind.i64))) (can FloatKind.f64 4607182418800017408)) (can FloatKind.f64 4602678819172646912) == some Ordering.gt || forder FloatKind.f64 (fop BinOp.add FloatKind.f64 (fop BinOp.sub FloatKind.f64 (fcvt FloatKind.f32 FloatKind.f64 x) (fofInt FloatKind.f64 (ftoInt FloatKind.f64 (fcvt FloatKind.f32 FloatKind.f64 x) IntKind.i64))) (can FloatKind.f64 4607182418800017408)) (can FloatKind.f64 4602678819172646912) == some Ordering.eq then fcvt FloatKind.f64 FloatKind.f32 (fneg FloatKind.f64 (fop BinOp.mul FloatKind.f64 (fop BinOp.mul FloatKind.f64 (fop BinOp.sub FloatKind.f64 (fop BinOp.add FloatKind.f64 (fop BinOp.sub FloatKind.f64 (fcvt FloatKind.f32 FloatKind.f64 x) (fofInt FloatKind.f64 (ftoInt FloatKind.f64 (fcvt FloatKind.f32 FloatKind.f64 x) IntKind.i64))) (can FloatKind.f64 4607182418800017408)) (can FloatKind.f64 4602678819172646912)) (can FloatKind.f64 4618760256179416344)) (sp (fop BinOp.mul FloatKind.f64 (fop BinOp.mul FloatKind.f64 (fop BinOp.sub FloatKind.f64 (fop BinOp.add FloatKind.f64 (fop BinOp.sub FloatKind.f64 (fcvt FloatKind.f32 FloatKind.f64 x) (fofInt FloatKind.f64 (ftoInt FloatKind.f64 (fcvt FloatKind.f32 FloatKind.f64 x) IntKind.i64))) (can FloatKind.f64 4607182418800017408)) (can FloatKind.f64 4602678819172646912)) (can FloatKind.f64 4618760256179416344)) (fop BinOp.mul FloatKind.f64 (fop BinOp.sub FloatKind.f64 (fop BinOp.add FloatKind.f64 (fop BinOp.sub FloatKind.f64 (fcvt FloatKind.f32 FloatKind.f64 x) (fofInt FloatKind.f64 (ftoInt FloatKind.f64 (fcvt FloatKind.f32 FloatKind.f64 x) IntKind.i64))) (can FloatKind.f64 4607182418800017408)) (can FloatKind.f64 4602678819172646912)) (can FloatKind.f64 4618760256179416344))) 8))) else fcvt FloatKind.f64 FloatKind.f32 (fop BinOp.mul FloatKind.f64 (fop BinOp.mul FloatKind.f64 (fop BinOp.sub FloatKind.f64 (fop BinOp.add FloatKind.f64 (fop BinOp.sub FloatKind.f64 (fcvt FloatKind.f32 FloatKind.f64 x) (fofInt FloatKind.f64 (ftoInt FloatKind.f64 (fcvt FloatKind.f32 FloatKind.f64 x) IntKind.i64))) (can FloatKind.f64 4607182418800017408)) (can FloatKind.f64 4602678819172646912)) (can FloatKind.f64 4618760256179416344)) (sp (fop BinOp.mul FloatKind.f64 (fop BinOp.mul FloatKind.f64 (fop BinOp.sub FloatKind.f64 (fop BinOp.add FloatKind.f64 (fop BinOp.sub FloatKind.f64 (fcvt FloatKind.f32 FloatKind.f64 x) (fofInt FloatKind.f64 (ftoInt FloatKind.f64 (fcvt FloatKind.f32 FloatKind.f64 x) IntKind.i64))) (can FloatKind.f64 4607182418800017408)) (can FloatKind.f64 4602678819172646912)) (can FloatKind.f64 4618760256179416344)) (fop BinOp.mul FloatKind.f64 (fop BinOp.sub FloatKind.f64 (fop BinOp.add FloatKind.f64 (fop BinOp.sub FloatKind.f64 (fcvt FloatKind.f32 FloatKind.f64 x) (fofInt FloatKind.f64 (ftoInt FloatKind.f64 (fcvt FloatKind.f32 FloatKind.f64 x) IntKind.i64))) (can FloatKind.f64 4607182418800017408)) (can FloatKind.f64 4602678819172646912)) (can FloatKind.f64 4618760256179416344))) 8)) else bif forder FloatKind.f64 (fop BinOp.add FloatKind.f64 (fop BinOp.sub FloatKind.f64 (fcvt FloatKind.f32 FloatKind.f64 x) (fofInt FloatKind.f64 (ftoInt FloatKind.f64 (fcvt FloatKind.f32 FloatKind.f64 x) IntKind.i64))) (can FloatKind.f64 4607182418800017408)) (can FloatKind.f64 4598175219545276416) == some Ordering.gt then bif forder FloatKind.f64 (fop BinOp.add FloatKind.f64 (fop BinOp.sub FloatKind.f64 (fcvt FloatKind.f32 FloatKind.f64 x) (fofInt FloatKind.f64 (ftoInt FloatKind.f64 (fcvt FloatKind.f32 FloatKind.f64 x) IntKind.i64))) (can FloatKind.f64 4607182418800017408)) (can FloatKind.f64 4602678819172646912) == some Ordering.gt || forder FloatKind.f64 (fop BinOp.add FloatKind.f64 (fop BinOp.sub FloatKind.f64 (fcvt FloatKind.f32 FloatKind.f64 x) (fofInt FloatKind.f64 (ftoInt FloatKind.f64 (fcvt FloatKind.f32 FloatKind.f64 x) IntKind.i64))) (can FloatKind.f64 4607182418800017408)) (can FloatKind.f64 4602678819172646912) == some Ordering.eq then fcvt FloatKind.f64 FloatKind.f32 (fneg FloatKind.f64 (fop BinOp.mul FloatKind.f64 (fop BinOp.mul FloatKind.f64 (fop BinOp.sub FloatKind.f64 (can FloatKind.f64 4602678819172646912) (fop BinOp.add FloatKind.f64 (fop BinOp.sub FloatKind.f64 (fcvt FloatKind.f32 FloatKind.f64 x) (fofInt FloatKind.f64 (ftoInt FloatKind.f64 (fcvt FloatKind.f32 FloatKind.f64 x) IntKind.i64))) (can FloatKind.f64 4607182418800017408))) (can FloatKind.f64 4618760256179416344)) (sp (fop BinOp.mul FloatKind.f64 (fop BinOp.mul FloatKind.f64 (fop BinOp.sub FloatKind.f64 (can FloatKind.f64 4602678819172646912) (fop BinOp.add FloatKind.f64 (fop BinOp.sub FloatKind.f64 (fcvt FloatKind.f32 FloatKind.f64 x) (fofInt FloatKind.f64 (ftoInt FloatKind.f64 (fcvt FloatKind.f32 FloatKind.f64 x) IntKind.i64))) (can FloatKind.f64 4607182418800017408))) (can FloatKind.f64 4618760256179416344)) (fop BinOp.mul FloatKind.f64 (fop BinOp.sub FloatKind.f64 (can FloatKind.f64 4602678819172646912) (fop BinOp.add FloatKind.f64 (fop BinOp.sub FloatKind.f64 (fcvt FloatKind.f32 FloatKind.f64 x) (fofInt FloatKind.f64 (ftoInt FloatKind.f64 (fcvt FloatKind.f32 FloatKind.f64 x) IntKind.i64))) (can FloatKind.f64 4607182418800017408))) (can FloatKind.f64 4618760256179416344))) 8))) else fcvt FloatKind.f64 FloatKind.f32 (fop BinOp.mul FloatKind.f64 (fop BinOp.mul FloatKind.f64 (fop BinOp.sub FloatKind.f64 (can FloatKind.f64 4602678819172646912) (fop BinOp.add FloatKind.f64 (fop BinOp.sub FloatKind.f64 (fcvt FloatKind.f32 FloatKind.f64 x) (fofInt FloatKind.f64 (ftoInt FloatKind.f64 (fcvt FloatKind.f32 FloatKind.f64 x) IntKind.i64))) (can FloatKind.f64 4607182418800017408))) (can FloatKind.f64 4618760256179416344)) (sp (fop BinOp.mul FloatKind.f64 (fop BinOp.mul FloatKind.f64 (fop BinOp.sub FloatKind.f64 (can FloatKind.f64 4602678819172646912) (fop BinOp.add FloatKind.f64 (fop BinOp.sub FloatKind.f64 (fcvt FloatKind.f32 FloatKind.f64 x) (fofInt FloatKind.f64 (ftoInt FloatKind.f64 (fcvt FloatKind.f32 FloatKind.f64 x) IntKind.i64))) (can FloatKind.f64 4607182418800017408))) (can FloatKind.f64 4618760256179416344)) (fop BinOp.mul FloatKind.f64 (fop BinOp.sub FloatKind.f64 (can FloatKind.f64 4602678819172646912) (fop BinOp.add FloatKind.f64 (fop BinOp.sub FloatKind.f64 (fcvt FloatKind.f32 FloatKind.f64 x) (fofInt FloatKind.f64 (ftoInt FloatKind.f64 (fcvt FloatKind.f32 FloatKind.f64 x) IntKind.i64))) (can FloatKind.f64 4607182418800017408))) (can FloatKind.f64 4618760256179416344))) 8)) else bif forder FloatKind.f64 (fop BinOp.add FloatKind.f64 (fop BinOp.sub FloatKind.f64 (fcvt FloatKind.f32 FloatKind.f64 x) (fofInt FloatKind.f64 (ftoInt FloatKind.f64 (fcvt FloatKind.f32 FloatKind.f64 x) IntKind.i64))) (can FloatKind.f64 4607182418800017408)) (can FloatKind.f64 4602678819172646912) == some Ordering.gt || forder FloatKind.f64 (fop BinOp.add FloatKind.f64 (fop BinOp.sub FloatKind.f64 (fcvt FloatKind.f32 FloatKind.f64 x) (fofInt FloatKind.f64 (ftoInt FloatKind.f64 (fcvt FloatKind.f32 FloatKind.f64 x) IntKind.i64))) (can FloatKind.f64 4607182418800017408)) (can FloatKind.f64 4602678819172646912) == some Ordering.eq then fcvt FloatKind.f64 FloatKind.f32 (fneg FloatKind.f64 (fop BinOp.mul FloatKind.f64 (fop BinOp.mul FloatKind.f64 (fop BinOp.add FloatKind.f64 (fop BinOp.sub FloatKind.f64 (fcvt FloatKind.f32 FloatKind.f64 x) (fofInt FloatKind.f64 (ftoInt FloatKind.f64 (fcvt FloatKind.f32 FloatKind.f64 x) IntKind.i64))) (can FloatKind.f64 4607182418800017408)) (can FloatKind.f64 4618760256179416344)) (sp (fop BinOp.mul FloatKind.f64 (fop BinOp.mul FloatKind.f64 (fop BinOp.add FloatKind.f64 (fop BinOp.sub FloatKind.f64 (fcvt FloatKind.f32 FloatKind.f64 x) (fofInt FloatKind.f64 (ftoInt FloatKind.f64 (fcvt FloatKind.f32 FloatKind.f64 x) IntKind.i64))) (can FloatKind.f64 4607182418800017408)) (can FloatKind.f64 4618760256179416344)) (fop BinOp.mul FloatKind.f64 (fop BinOp.add FloatKind.f64 (fop BinOp.sub FloatKind.f64 (fcvt FloatKind.f32 FloatKind.f64 x) (fofInt FloatKind.f64 (ftoInt FloatKind.f64 (fcvt FloatKind.f32 FloatKind.f64 x) IntKind.i64))) (can FloatKind.f64 4607182418800017408)) (can FloatKind.f64 4618760256179416344))) 8))) else fcvt FloatKind.f64 FloatKind.f32 (fop BinOp.mul FloatKind.f64 (fop BinOp.mul FloatKind.f64 (fop BinOp.add FloatKind.f64 (fop BinOp.sub FloatKind.f64 (fcvt FloatKind.f32 FloatKind.f64 x) (fofInt FloatKind.f64 (ftoInt FloatKind.f64 (fcvt FloatKind.f32 FloatKind.f64 x) IntKind.i64))) (can FloatKind.f64 4607182418800017408)) (can FloatKind.f64 4618760256179416344)) (sp (fop BinOp.mul FloatKind.f64 (fop BinOp.mul FloatKind.f64 (fop BinOp.add FloatKind.f64 (fop BinOp.sub FloatKind.f64 (fcvt FloatKind.f32 FloatKind.f64 x) (fofInt FloatKind.f64 (ftoInt FloatKind.f64 (fcvt FloatKind.f32 FloatKind.f64 x) IntKind.i64))) (can FloatKind.f64 4607182418800017408)) (can FloatKind.f64 4618760256179416344)) (fop BinOp.mul FloatKind.f64 (fop BinOp.add FloatKind.f64 (fop BinOp.sub FloatKind.f64 (fcvt FloatKind.f32 FloatKind.f64 x) (fofInt FloatKind.f64 (ftoInt FloatKind.f64 (fcvt FloatKind.f32 FloatKind.f64 x) IntKind.i64))) (can FloatKind.f64 4607182418800017408)) (can FloatKind.f64 4618760256179416344))) 8)) else bif forder FloatKind.f64 (fop BinOp.sub FloatKind.f64 (fcvt FloatKind.f32 FloatKind.f64 x) (fofInt FloatKind.f64 (ftoInt FloatKind.f64 (fcvt FloatKind.f32 FloatKind.f64 x) IntKind.i64))) (can FloatKind.f64 4602678819172646912) == some Ordering.gt || forder FloatKind.f64 (fop BinOp.sub FloatKind.f64 (fcvt FloatKind.f32 FloatKind.f64 x) (fofInt FloatKind.f64 (ftoInt FloatKind.f64 (fcvt FloatKind.f32 FloatKind.f64 x) IntKind.i64))) (can FloatKind.f64 4602678819172646912) == some Ordering.eq then bif forder FloatKind.f64 (fop BinOp.sub FloatKind.f64 (fop BinOp.sub FloatKind.f64 (fcvt FloatKind.f32 FloatKind.f64 x) (fofInt FloatKind.f64 (ftoInt FloatKind.f64 (fcvt FloatKind.f32 FloatKind.f64 x) IntKind.i64))) (can FloatKind.f64 4602678819172646912)) (can FloatKind.f64 4598175219545276416) == some Ordering.gt then bif forder FloatKind.f64 (fop BinOp.sub FloatKind.f64 (fcvt FloatKind.f32 FloatKind.f64 x) (fofInt FloatKind.f64 (ftoInt FloatKind.f64 (fcvt FloatKind.f32 FloatKind.f64 x) IntKind.i64))) (can FloatKind.f64 4602678819172646912) == some Ordering.gt || forder FloatKind.f64 (fop BinOp.sub FloatKind.f64 (fcvt FloatKind.f32 FloatKind.f64 x) (fofInt FloatKind.f64 (ftoInt FloatKind.f64 (fcvt FloatKind.f32 FloatKind.f64 x) IntKind.i64))) (can FloatKind.f64 4602678819172646912) == some Ordering.eq then fcvt FloatKind.f64 FloatKind.f32 (fneg FloatKind.f64 (fop BinOp.mul FloatKind.f64 (fop BinOp.mul FloatKind.f64 (fop BinOp.sub FloatKind.f64 (can FloatKind.f64 4602678819172646912) (fop BinOp.sub FloatKind.f64 (fop BinOp.sub FloatKind.f64 (fcvt FloatKind.f32 FloatKind.f64 x) (fofInt FloatKind.f64 (ftoInt FloatKind.f64 (fcvt FloatKind.f32 FloatKind.f64 x) IntKind.i64))) (can FloatKind.f64 4602678819172646912))) (can FloatKind.f64 4618760256179416344)) (sp (fop BinOp.mul FloatKind.f64 (fop BinOp.mul FloatKind.f64 (fop BinOp.sub FloatKind.f64 (can FloatKind.f64 4602678819172646912) (fop BinOp.sub FloatKind.f64 (fop BinOp.sub FloatKind.f64 (fcvt FloatKind.f32 FloatKind.f64 x) (fofInt FloatKind.f64 (ftoInt FloatKind.f64 (fcvt FloatKind.f32 FloatKind.f64 x) IntKind.i64))) (can FloatKind.f64 4602678819172646912))) (can FloatKind.f64 4618760256179416344)) (fop BinOp.mul FloatKind.f64 (fop BinOp.sub FloatKind.f64 (can FloatKind.f64 4602678819172646912) (fop BinOp.sub FloatKind.f64 (fop BinOp.sub FloatKind.f64 (fcvt FloatKind.f32 FloatKind.f64 x) (fofInt FloatKind.f64 (ftoInt FloatKind.f64 (fcvt FloatKind.f32 FloatKind.f64 x) IntKind.i64))) (can FloatKind.f64 4602678819172646912))) (can FloatKind.f64 4618760256179416344))) 8))) else fcvt FloatKind.f64 FloatKind.f32 (fop BinOp.mul FloatKind.f64 (fop BinOp.mul FloatKind.f64 (fop BinOp.sub FloatKind.f64 (can FloatKind.f64 4602678819172646912) (fop BinOp.sub FloatKind.f64 (fop BinOp.sub FloatKind.f64 (fcvt FloatKind.f32 FloatKind.f64 x) (fofInt FloatKind.f64 (ftoInt FloatKind.f64 (fcvt FloatKind.f32 FloatKind.f64 x) IntKind.i64))) (can FloatKind.f64 4602678819172646912))) (can FloatKind.f64 4618760256179416344)) (sp (fop BinOp.mul FloatKind.f64 (fop BinOp.mul FloatKind.f64 (fop BinOp.sub FloatKind.f64 (can FloatKind.f64 4602678819172646912) (fop BinOp.sub FloatKind.f64 (fop BinOp.sub FloatKind.f64 (fcvt FloatKind.f32 FloatKind.f64 x) (fofInt FloatKind.f64 (ftoInt FloatKind.f64 (fcvt FloatKind.f32 FloatKind.f64 x) IntKind.i64))) (can FloatKind.f64 4602678819172646912))) (can FloatKind.f64 4618760256179416344)) (fop BinOp.mul FloatKind.f64 (fop BinOp.sub FloatKind.f64 (can FloatKind.f64 4602678819172646912) (fop BinOp.sub FloatKind.f64 (fop BinOp.sub FloatKind.f64 (fcvt FloatKind.f32 FloatKind.f64 x) (fofInt FloatKind.f64 (ftoInt FloatKind.f64 (fcvt FloatKind.f32 FloatKind.f64 x) IntKind.i64))) (can FloatKind.f64 4602678819172646912))) (can FloatKind.f64 4618760256179416344))) 8)) else bif forder FloatKind.f64 (fop BinOp.sub FloatKind.f64 (fcvt FloatKind.f32 FloatKind.f64 x) (fofInt FloatKind.f64 (ftoInt FloatKind.f64 (fcvt FloatKind.f32 FloatKind.f64 x) IntKind.i64))) (can FloatKind.f64 4602678819172646912) == some Ordering.gt || forder FloatKind.f64 (fop BinOp.sub FloatKind.f64 (fcvt FloatKind.f32 FloatKind.f64 x) (fofInt FloatKind.f64 (ftoInt FloatKind.f64 (fcvt FloatKind.f32 FloatKind.f64 x) IntKind.i64))) (can FloatKind.f64 4602678819172646912) == some Ordering.eq then fcvt FloatKind.f64 FloatKind.f32 (fneg FloatKind.f64 (fop BinOp.mul FloatKind.f64 (fop BinOp.mul FloatKind.f64 (fop BinOp.sub FloatKind.f64 (fop BinOp.sub FloatKind.f64 (fcvt FloatKind.f32 FloatKind.f64 x) (fofInt FloatKind.f64 (ftoInt FloatKind.f64 (fcvt FloatKind.f32 FloatKind.f64 x) IntKind.i64))) (can FloatKind.f64 4602678819172646912)) (can FloatKind.f64 4618760256179416344)) (sp (fop BinOp.mul FloatKind.f64 (fop BinOp.mul FloatKind.f64 (fop BinOp.sub FloatKind.f64 (fop BinOp.sub FloatKind.f64 (fcvt FloatKind.f32 FloatKind.f64 x) (fofInt FloatKind.f64 (ftoInt FloatKind.f64 (fcvt FloatKind.f32 FloatKind.f64 x) IntKind.i64))) (can FloatKind.f64 4602678819172646912)) (can FloatKind.f64 4618760256179416344)) (fop BinOp.mul FloatKind.f64 (fop BinOp.sub FloatKind.f64 (fop BinOp.sub FloatKind.f64 (fcvt FloatKind.f32 FloatKind.f64 x) (fofInt FloatKind.f64 (ftoInt FloatKind.f64 (fcvt FloatKind.f32 FloatKind.f64 x) IntKind.i64))) (can FloatKind.f64 4602678819172646912)) (can FloatKind.f64 4618760256179416344))) 8))) else fcvt FloatKind.f64 FloatKind.f32 (fop BinOp.mul FloatKind.f64 (fop BinOp.mul FloatKind.f64 (fop BinOp.sub FloatKind.f64 (fop BinOp.sub FloatKind.f64 (fcvt FloatKind.f32 FloatKind.f64 x) (fofInt FloatKind.f64 (ftoInt FloatKind.f64 (fcvt FloatKind.f32 FloatKind.f64 x) IntKind.i64))) (can FloatKind.f64 4602678819172646912)) (can FloatKind.f64 4618760256179416344)) (sp (fop BinOp.mul FloatKind.f64 (fop BinOp.mul FloatKind.f64 (fop BinOp.sub FloatKind.f64 (fop BinOp.sub FloatKind.f64 (fcvt FloatKind.f32 FloatKind.f64 x) (fofInt FloatKind.f64 (ftoInt FloatKind.f64 (fcvt FloatKind.f32 FloatKind.f64 x) IntKind.i64))) (can FloatKind.f64 4602678819172646912)) (can FloatKind.f64 4618760256179416344)) (fop BinOp.mul FloatKind.f64 (fop BinOp.sub FloatKind.f64 (fop BinOp.sub FloatKind.f64 (fcvt FloatKind.f32 FloatKind.f64 x) (fofInt FloatKind.f64 (ftoInt FloatKind.f64 (fcvt FloatKind.f32 FloatKind.f64 x) IntKind.i64))) (can FloatKind.f64 4602678819172646912)) (can FloatKind.f64 4618760256179416344))) 8)) else bif forder FloatKind.f64 (fop BinOp.sub FloatKind.f64 (fcvt FloatKind.f32 FloatKind.f64 x) (fofInt FloatKind.f64 (ftoInt FloatKind.f64 (fcvt FloatKind.f32 FloatKind.f64 x) IntKind.i64))) (can FloatKind.f64 4598175219545276416) == some Ordering.gt then bif forder FloatKind.f64 (fop BinOp.sub FloatKind.f64 (fcvt FloatKind.f32 FloatKind.f64 x) (fofInt FloatKind.f64 (ftoInt FloatKind.f64 (fcvt FloatKind.f32 FloatKind.f64 x) IntKind.i64))) (can FloatKind.f64 4602678819172646912) == some Ordering.gt || forder FloatKind.f64 (fop BinOp.sub FloatKind.f64 (fcvt FloatKind.f32 FloatKind.f64 x) (fofInt FloatKind.f64 (ftoInt FloatKind.f64 (fcvt FloatKind.f32 FloatKind.f64 x) IntKind.i64))) (can FloatKind.f64 4602678819172646912) == some Ordering.eq then fcvt FloatKind.f64 FloatKind.f32 (fneg FloatKind.f64 (fop BinOp.mul FloatKind.f64 (fop BinOp.mul FloatKind.f64 (fop BinOp.sub FloatKind.f64 (can FloatKind.f64 4602678819172646912) (fop BinOp.sub FloatKind.f64 (fcvt FloatKind.f32 FloatKind.f64 x) (fofInt FloatKind.f64 (ftoInt FloatKind.f64 (fcvt FloatKind.f32 FloatKind.f64 x) IntKind.i64)))) (can FloatKind.f64 4618760256179416344)) (sp (fop BinOp.mul FloatKind.f64 (fop BinOp.mul FloatKind.f64 (fop BinOp.sub FloatKind.f64 (can FloatKind.f64 4602678819172646912) (fop BinOp.sub FloatKind.f64 (fcvt FloatKind.f32 FloatKind.f64 x) (fofInt FloatKind.f64 (ftoInt FloatKind.f64 (fcvt FloatKind.f32 FloatKind.f64 x) IntKind.i64)))) (can FloatKind.f64 4618760256179416344)) (fop BinOp.mul FloatKind.f64 (fop BinOp.sub FloatKind.f64 (can FloatKind.f64 4602678819172646912) (fop BinOp.sub FloatKind.f64 (fcvt FloatKind.f32 FloatKind.f64 x) (fofInt FloatKind.f64 (ftoInt FloatKind.f64 (fcvt FloatKind.f32 FloatKind.f64 x) IntKind.i64)))) (can FloatKind.f64 4618760256179416344))) 8))) else fcvt FloatKind.f64 FloatKind.f32 (fop BinOp.mul FloatKind.f64 (fop BinOp.mul FloatKind.f64 (fop BinOp.sub FloatKind.f64 (can FloatKind.f64 4602678819172646912) (fop BinOp.sub FloatKind.f64 (fcvt FloatKind.f32 FloatKind.f64 x) (fofInt FloatKind.f64 (ftoInt FloatKind.f64 (fcvt FloatKind.f32 FloatKind.f64 x) IntKind.i64)))) (can FloatKind.f64 4618760256179416344)) (sp (fop BinOp.mul FloatKind.f64 (fop BinOp.mul FloatKind.f64 (fop BinOp.sub FloatKind.f64 (can FloatKind.f64 4602678819172646912) (fop BinOp.sub FloatKind.f64 (fcvt FloatKind.f32 FloatKind.f64 x) (fofInt FloatKind.f64 (ftoInt FloatKind.f64 (fcvt FloatKind.f32 FloatKind.f64 x) IntKind.i64)))) (can FloatKind.f64 4618760256179416344)) (fop BinOp.mul FloatKind.f64 (fop BinOp.sub FloatKind.f64 (can FloatKind.f64 4602678819172646912) (fop BinOp.sub FloatKind.f64 (fcvt FloatKind.f32 FloatKind.f64 x) (fofInt FloatKind.f64 (ftoInt FloatKind.f64 (fcvt FloatKind.f32 FloatKind.f64 x) IntKind.i64)))) (can FloatKind.f64 4618760256179416344))) 8)) else bif forder FloatKind.f64 (fop BinOp.sub FloatKind.f64 (fcvt FloatKind.f32 FloatKind.f64 x) (fofInt FloatKind.f64 (ftoInt FloatKind.f64 (fcvt FloatKind.f32 FloatKind.f64 x) IntKind.i64))) (can FloatKind.f64 4602678819172646912) == some Ordering.gt || forder FloatKind.f64 (fop BinOp.sub FloatKind.f64 (fcvt FloatKind.f32 FloatKind.f64 x) (fofInt FloatKind.f64 (ftoInt FloatKind.f64 (fcvt FloatKind.f32 FloatKind.f64 x) IntKind.i64))) (can FloatKind.f64 4602678819172646912) == some Ordering.eq then fcvt FloatKind.f64 FloatKind.f32 (fneg FloatKind.f64 (fop BinOp.mul FloatKind.f64 (fop BinOp.mul FloatKind.f64 (fop BinOp.sub FloatKind.f64 (fcvt FloatKind.f32 FloatKind.f64 x) (fofInt FloatKind.f64 (ftoInt FloatKind.f64 (fcvt FloatKind.f32 FloatKind.f64 x) IntKind.i64))) (can FloatKind.f64 4618760256179416344)) (sp (fop BinOp.mul FloatKind.f64 (fop BinOp.mul FloatKind.f64 (fop BinOp.sub FloatKind.f64 (fcvt FloatKind.f32 FloatKind.f64 x) (fofInt FloatKind.f64 (ftoInt FloatKind.f64 (fcvt FloatKind.f32 FloatKind.f64 x) IntKind.i64))) (can FloatKind.f64 4618760256179416344)) (fop BinOp.mul FloatKind.f64 (fop BinOp.sub FloatKind.f64 (fcvt FloatKind.f32 FloatKind.f64 x) (fofInt FloatKind.f64 (ftoInt FloatKind.f64 (fcvt FloatKind.f32 FloatKind.f64 x) IntKind.i64))) (can FloatKind.f64 4618760256179416344))) 8))) else fcvt FloatKind.f64 FloatKind.f32 (fop BinOp.mul FloatKind.f64 (fop BinOp.mul FloatKind.f64 (fop BinOp.sub FloatKind.f64 (fcvt FloatKind.f32 FloatKind.f64 x) (fofInt FloatKind.f64 (ftoInt FloatKind.f64 (fcvt FloatKind.f32 FloatKind.f64 x) IntKind.i64))) (can FloatKind.f64 4618760256179416344)) (sp (fop BinOp.mul FloatKind.f64 (fop BinOp.mul FloatKind.f64 (fop BinOp.sub FloatKind.f64 (fcvt FloatKind.f32 FloatKind.f64 x) (fofInt FloatKind.f64 (ftoInt FloatKind.f64 (fcvt FloatKind.f32 FloatKind.f64 x) IntKind.i64))) (can FloatKind.f64 4618760256179416344)) (fop BinOp.mul FloatKind.f64 (fop BinOp.sub FloatKind.f64 (fcvt FloatKind.f32 FloatKind.f64 x) (fofInt FloatKind.f64 (ftoInt FloatKind.f64 (fcvt FloatKind.f32 FloatKind.f64 x) IntKind.i64))) (can FloatKind.f64 4618760256179416344))) 8)))) := by kernel_rfl
noncomputable def s80 : List A → Option (Bool × A)
  | [.flt .f32 x] => some (true, .flt .f32 (fcvt .f64 .f32 (sineW (fcvt .f32 .f64 x))))
  | _ => none
theorem s80_at : EnvAt Try.prog 80 s80 := of_auto cfg31_ok lp80_ok Try.func80 (by kernel_rfl) (by kernel_rfl) fun ds cc rr h hc => by
  unfold s80 at h
  split at h
  · rename_i x
    simp only [Option.some.injEq, Prod.mk.injEq] at h
    obtain ⟨rfl, rfl⟩ := h
    refine auto_fit (auto80 x) ?_ ?_
    · show A.flt .f32 (bif !fin x then qnan .f32 else bif geF (absN (fcvt .f32 .f64 x)) c52 then can .f32 0 else treeS (fun g i => bif geF g (can .f64 4602678819172646912) then fcvt .f64 .f32 (fneg .f64 (sineP (fop .mul .f64 i (can .f64 4618760256179416344)))) else fcvt .f64 .f32 (sineP (fop .mul .f64 i (can .f64 4618760256179416344)))) (fracF (fcvt .f32 .f64 x))) = _
      rw [treeS_eq, fin_num, ← num_cvt]
      unfold sineW
      generalize fcvt .f32 .f64 x = y
      cases hn : num .f64 y
      · show A.flt .f32 (qnan .f32) = A.flt .f32 (fcvt .f64 .f32 (qnan .f64))
        rw [show fcvt .f64 .f32 (qnan .f64) = qnan .f32 by decide +kernel]
      · rw [big_absN hn]
        cases bigF y
        · show A.flt .f32 (bif geF (sineF1 (fracF y)) (can .f64 4602678819172646912) then _ else _) = A.flt .f32 (fcvt .f64 .f32 (bif geF (sineF1 (fracF y)) (can .f64 4602678819172646912) then _ else _))
          cases geF (sineF1 (fracF y)) (can .f64 4602678819172646912) <;> rfl
        · show A.flt .f32 (can .f32 0) = A.flt .f32 (fcvt .f64 .f32 (can .f64 0))
          rw [show fcvt .f64 .f32 (can .f64 0) = can .f32 0 by decide +kernel]
    · show (bif !fin x then true else !isNaN .f64 (fcvt .f32 .f64 x) && bif geF (absN (fcvt .f32 .f64 x)) c52 then true else ftoIntOk .f64 (fcvt .f32 .f64 x) .i64 && treeS (fun g i => Nat.beq (can .f64 4607182418800017408) (sp (fop .mul .f64 (fop .mul .f64 i (can .f64 4618760256179416344)) (fop .mul .f64 i (can .f64 4618760256179416344))) 0) && Nat.beq (can .f64 4620693217682128896) (kF 0) && bif geF g (can .f64 4602678819172646912) then fcvtOk .f64 .f32 (fneg .f64 (sineP (fop .mul .f64 i (can .f64 4618760256179416344)))) && true else fcvtOk .f64 .f32 (sineP (fop .mul .f64 i (can .f64 4618760256179416344))) && true) (fracF (fcvt .f32 .f64 x))) = true
      rw [treeS_eq, fin_num, ← num_cvt]
      generalize fcvt .f32 .f64 x = y
      cases hn : num .f64 y
      · rfl
      · rw [big_absN hn, num_nan hn]
        cases hb : bigF y
        · have hz : Le .f64 6 (fop .mul .f64 (sineF3 (sineF2 (sineF1 (fracF y)))) (can .f64 4618760256179416344)) := le_mul (le_sineF (frac_ok hn hb).2) le_ctau (by decide) (by decide)
          have p1 := cvt_down (le_sineP hz) (by decide) (by decide)
          have p2 := cvt_down (le_neg (le_sineP hz)) (by decide) (by decide)
          have p3 : Nat.beq (can .f64 4620693217682128896) (kF 0) = true := by decide +kernel
          rw [(frac_ok hn hb).1, p1, p2, p3]
          show (Nat.beq (can .f64 4607182418800017408) (can .f64 4607182418800017408) && true && _) = true
          rw [Nat.beq_refl, Bool.cond_self]; rfl
        · rfl
  · cases h

noncomputable def env32 : List (Nat × (List A → Option (Bool × A))) := (132, s132) :: (80, s80) :: env31
theorem env32_ok : EnvOK Try.prog (look env32) := (env_cons s132_at (env_cons s80_at env31_ok))
noncomputable def cfg32 : Cfg := mkCfg tab [] xts (look env32)
theorem cfg32_ok : CfgOK Try.prog cfg32 := cfg_ok tab_eq (no_fts _) xts_ok env32_ok mixed
theorem auto93 (x : Nat) : autoLp cfg32 (fun _ => none) Try.f93 [.flt .f32 x] =
    some (fcvtOk FloatKind.f64 FloatKind.f32 (sineW (fcvt FloatKind.f32 FloatKind.f64 x)) && true, A.flt FloatKind.f32 (fcvt FloatKind.f64 FloatKind.f32 (sineW (fcvt FloatKind.f32 FloatKind.f64 x)))) := by kernel_rfl
noncomputable def s93 : List A → Option (Bool × A)
  | [.flt .f32 x] => some (true, .flt .f32 (fcvt .f64 .f32 (sineW (fcvt .f32 .f64 x))))
  | _ => none
theorem s93_at : EnvAt Try.prog 93 s93 := of_auto cfg32_ok (lp_none _) Try.func93 (by kernel_rfl) (by kernel_rfl) fun ds cc rr h hc => by
  unfold s93 at h
  split at h
  · rename_i x
    simp only [Option.some.injEq, Prod.mk.injEq] at h
    obtain ⟨rfl, rfl⟩ := h
    refine auto_fit (auto93 x) ?_ ?_
    · rfl
    · rw [sineW_ok]; rfl
  · cases h

noncomputable def env33 : List (Nat × (List A → Option (Bool × A))) := (93, s93) :: env32
theorem env33_ok : EnvOK Try.prog (look env33) := (env_cons s93_at env32_ok)
noncomputable def cfg33 : Cfg := mkCfg tab [] xts (look env33)
theorem cfg33_ok : CfgOK Try.prog cfg33 := cfg_ok tab_eq (no_fts _) xts_ok env33_ok mixed
end Go.Fw.W1

/-
  Points of a ring: the loops.
-/
namespace Go.Fw.W1
open Go.Proofs
noncomputable def sine32 (x : Nat) : Nat := fcvt .f64 .f32 (sineW (fcvt .f32 .f64 x))
def ringQ (n : Int) (i : Nat) : Nat := fop .quo .f32 (fofInt .f32 (Int.ofNat i)) (fofInt .f32 n)
noncomputable def ringX (n : Int) (r i : Nat) : Nat := fop .mul .f32 r (fcvt .f64 .f32 (sineW (fcvt .f32 .f64 (fop .add .f32 (ringQ n i) (can .f32 1048576000)))))
noncomputable def ringY (n : Int) (r i : Nat) : Nat := fop .mul .f32 r (fcvt .f64 .f32 (sineW (fcvt .f32 .f64 (ringQ n i))))
theorem lt_int {k : Nat} {n : Int} (h : k < n.toNat) : decide (Int.ofNat k < n) = true := by simp; omega
theorem ge_int {k : Nat} {n : Int} (h : ¬ k < n.toNat) : decide (Int.ofNat k < n) = false := by simp; omega
theorem app3 {k j p : Nat} {u : Nat → Nat} {x : List Nat} (hx : x.getD j 0 = u k) (hp : p < k + 1) : (match decide (p < k) with | true => u p | false => ([x].getD (p - k) []).getD j 0) = u p := by
  by_cases h : p < k
  · rw [decide_eq_true h]
  · rw [decide_eq_false h]
    obtain rfl : p = k := by omega
    rw [Nat.sub_self]; exact hx
theorem auto74 (q r z : Nat) : autoLp cfg33 (fun _ => none) Try.f74 [.flt .f32 q, .flt .f32 r, .flt .f32 z] =
    some (true, A.agg [A.flt FloatKind.f32 (fop BinOp.mul FloatKind.f32 r (fcvt FloatKind.f64 FloatKind.f32 (sineW (fcvt FloatKind.f32 FloatKind.f64 (fop BinOp.add FloatKind.f32 q (can FloatKind.f32 1048576000)))))), A.flt FloatKind.f32 (fop BinOp.mul FloatKind.f32 r (fcvt FloatKind.f64 FloatKind.f32 (sineW (fcvt FloatKind.f32 FloatKind.f64 q)))), A.flt FloatKind.f32 z]) := by kernel_rfl
noncomputable def s74 : List A → Option (Bool × A)
  | [.flt .f32 q, .flt .f32 r, .flt .f32 z] => some (true, .agg [.flt .f32 (fop .mul .f32 r (fcvt .f64 .f32 (sineW (fcvt .f32 .f64 (fop .add .f32 q (can .f32 1048576000)))))), .flt .f32 (fop .mul .f32 r (fcvt .f64 .f32 (sineW (fcvt .f32 .f64 q)))), .flt .f32 z])
  | _ => none
theorem s74_at : EnvAt Try.prog 74 s74 := of_auto cfg33_ok (lp_none _) Try.func74 (by kernel_rfl) (by kernel_rfl) fun ds cc rr h hc => by
  unfold s74 at h
  split at h
  · rename_i q r z
    simp only [Option.some.injEq, Prod.mk.injEq] at h
    obtain ⟨rfl, rfl⟩ := h
    refine auto_fit (auto74 q r z) ?_ ?_
    · rfl
    · rfl
  · cases h

noncomputable def env34 : List (Nat × (List A → Option (Bool × A))) := (74, s74) :: env33
theorem env34_ok : EnvOK Try.prog (look env34) := (env_cons s74_at env33_ok)
noncomputable def cfg34 : Cfg := mkCfg tab [] xts (look env34)
theorem cfg34_ok : CfgOK Try.prog cfg34 := cfg_ok tab_eq (no_fts _) xts_ok env34_ok mixed
noncomputable def cfgD : Cfg := mkCfg (nilTab tab) [] xts (look env34)
theorem cfgD_ok : CfgOK Try.prog cfgD := cfgN_ok' tab_eq (no_fts _) xts_ok env34_ok mixed
noncomputable def I84 (n : Int) (r h c : Nat) (k : Nat) : List A := [.int .i64 n, .flt .f32 r, .flt .f32 h, .int .i64 (Int.ofNat k), .ptr 64 0, .ptr 0 0]
noncomputable def J84 (n : Int) (r h c : Nat) (k : Nat) : List O := [.var [.sl 16 k, .bool true, .flt .f32 c], .row 59 3 k (.vecs .f32 (ringX n r) (ringY n r) (fun _ => h)), .var [.emp, .bool false, .flt .f32 0]]
theorem round84 (n : Int) (r h c : Nat) (k : Nat) (L : XK → List A → List (Option O) → Prop) :
    ((exec cfg34 (fun _ => true) (fun _ => none) 0 1000 (loopOf Try.f84 0) (litSt Try.f84.ntmps 112 [0, 1, 2, 10, 9, 8] [64, 16, 0] (I84 n r h c k) (J84 n r h c k))).rt [0, 1, 2, 10, 9, 8] [64, 16, 0]).Ok L =
    bif decide (Int.ofNat k < n) then
      bif decide (k + 1 ≤ 1073741824) then
        L (XK.normal) ([A.int IntKind.i64 n, A.flt FloatKind.f32 r, A.flt FloatKind.f32 h, A.int IntKind.i64 (IntKind.i64.wrap (Int.ofNat k + Int.ofNat 1)), A.ptr 64 0, A.ptr 0 0]) ([some (O.var [A.sl 16 (k + 1), A.bool true, A.flt FloatKind.f32 c]),   some     (O.row 59 3 (k + 1)       (Row.vecs FloatKind.f32         (fun j =>           match decide (j < k) with           | true => ringX n r j           | false => ([[fop BinOp.mul FloatKind.f32 r (fcvt FloatKind.f64 FloatKind.f32 (sineW (fcvt FloatKind.f32 FloatKind.f64 (fop BinOp.add FloatKind.f32 (fop BinOp.quo FloatKind.f32 (fofInt FloatKind.f32 (Int.ofNat k)) (fofInt FloatKind.f32 n)) (can FloatKind.f32 1048576000))))), fop BinOp.mul FloatKind.f32 r (fcvt FloatKind.f64 FloatKind.f32 (sineW (fcvt FloatKind.f32 FloatKind.f64 (fop BinOp.quo FloatKind.f32 (fofInt FloatKind.f32 (Int.ofNat k)) (fofInt FloatKind.f32 n))))), h]].getD (j - k) []).getD 0 0)         (fun j =>           match decide (j < k) with           | true => ringY n r j           | false => ([[fop BinOp.mul FloatKind.f32 r (fcvt FloatKind.f64 FloatKind.f32 (sineW (fcvt FloatKind.f32 FloatKind.f64 (fop BinOp.add FloatKind.f32 (fop BinOp.quo FloatKind.f32 (fofInt FloatKind.f32 (Int.ofNat k)) (fofInt FloatKind.f32 n)) (can FloatKind.f32 1048576000))))), fop BinOp.mul FloatKind.f32 r (fcvt FloatKind.f64 FloatKind.f32 (sineW (fcvt FloatKind.f32 FloatKind.f64 (fop BinOp.quo FloatKind.f32 (fofInt FloatKind.f32 (Int.ofNat k)) (fofInt FloatKind.f32 n))))), h]].getD (j - k) []).getD 1 0)         fun j =>         match decide (j < k) with         | true => h         | false => ([[fop BinOp.mul FloatKind.f32 r (fcvt FloatKind.f64 FloatKind.f32 (sineW (fcvt FloatKind.f32 FloatKind.f64 (fop BinOp.add FloatKind.f32 (fop BinOp.quo FloatKind.f32 (fofInt FloatKind.f32 (Int.ofNat k)) (fofInt FloatKind.f32 n)) (can FloatKind.f32 1048576000))))), fop BinOp.mul FloatKind.f32 r (fcvt FloatKind.f64 FloatKind.f32 (sineW (fcvt FloatKind.f32 FloatKind.f64 (fop BinOp.quo FloatKind.f32 (fofInt FloatKind.f32 (Int.ofNat k)) (fofInt FloatKind.f32 n))))), h]].getD (j - k) []).getD 2 0)),   some (O.var [A.emp, A.bool false, A.flt FloatKind.f32 0])])
      else
        False
    else
      L (XK.exit 0) ([A.int IntKind.i64 n, A.flt FloatKind.f32 r, A.flt FloatKind.f32 h, A.int IntKind.i64 (Int.ofNat k), A.ptr 64 0, A.ptr 0 0]) ([some (O.var [A.sl 16 k, A.bool true, A.flt FloatKind.f32 c]), some (O.row 59 3 k (Row.vecs FloatKind.f32 (fun i => ringX n r i) (fun i => ringY n r i) fun x => h)), some (O.var [A.emp, A.bool false, A.flt FloatKind.f32 0])]) := by kernel_rfl
noncomputable def F84 : List A → List (Option O) → Option R3
  | [.int .i64 n, .flt .f32 r, .flt .f32 h, .int .i64 0, .ptr 64 0, .ptr 0 0], [some (.var [.sl 16 0, .bool true, .flt .f32 c]), some (.row 59 3 0 g), some (.var [.emp, .bool false, .flt .f32 0])] => some (.ite (decide (n ≤ 1000)) (.leaf .normal (I84 n r h c (n.toNat)) (J84 n r h c (n.toNat))) .fail)
  | _, _ => none
theorem loop84 : CodeOK Try.prog (fun _ σ => sumAt Try.f84.ntmps 112 [0, 1, 2, 10, 9, 8] [64, 16, 0] F84 σ) (.block 0 (.loop (loopOf Try.f84 0))) := by
  refine block_ok (own := fun _ => true) (lp := (fun _ => none)) (un := 0) (fuel := 1000) cfg34_ok (lp_none _) fun az os R hF hok => ?_
  unfold F84 at hF
  split at hF
  · rename_i n r h c g
    injection hF with hF
    subst hF
    have hg := hok.guard
    have hg' := hg
    simp only [Bool.and_eq_true, Nat.ble_eq, Nat.beq_eq, decide_eq_true_eq] at hg'
    have hn := hg'
    refine for_fact (ids := [64, 16, 0]) (fun _ => true) (n.toNat) (I84 n r h c) (J84 n r h c) _ (.ret) (I84 n r h c) (I84 n r h c) (I84 n r h c (n.toNat)) (J84 n r h c (n.toNat)) rfl (by unfold J84; exact ⟨rfl, ⟨59, _, rfl, .inr rfl, fun p hp => absurd hp (by omega)⟩, rfl, trivial⟩) (fun _ => rfl) (fun _ => rfl) (fun _ => ALe.self _) (fun _ => rfl) (ALe.self _) (OSims.self _) rfl (fun h => by cases h) (fun k hk L h1 h2 h3 => ?_) fun L hL => ?_
    · rw [round84]

      by_cases hkm : k < n.toNat
      · refine condT (lt_int hkm) ?_
        rw [wrap_succ (by omega)]
        refine condT (decide_eq_true (by omega)) ?_
        exact h1 hkm rfl _ ⟨rfl, ⟨59, _, rfl, .inr rfl, fun p hp => vec_at (app3 (u := ringX n r) rfl hp) (app3 (u := ringY n r) rfl hp) (app3 (u := fun _ => h) rfl hp)⟩, rfl, trivial⟩
      · refine condE (ge_int hkm) ?_
        obtain rfl : k = n.toNat := by omega
        exact h3 rfl
    · exact ⟨fun _ => hL.1 hg, fun N _ h => by cases h⟩
  · cases hF

noncomputable def I31 (n : Int) (r h c : Nat) (k : Nat) : List A := [.int .i64 n, .int .i64 n, .flt .f32 r, .flt .f32 h, .int .i64 (Int.ofNat k), .ptr 272 0, .ptr 0 0, .bool false]
noncomputable def J31 (n : Int) (r h c : Nat) (k : Nat) : List O := [.var [.sl 336 k, .bool true, .flt .f32 c], .row 59 3 k (.vecs .f32 (ringX n r) (ringY n r) (fun _ => h)), .var [.nils, .bool false, .flt .f32 0]]
theorem round31 (n : Int) (r h c : Nat) (k : Nat) (L : XK → List A → List (Option O) → Prop) :
    ((exec cfgD (fun _ => true) (fun _ => none) 0 1000 (loopOf Try.f31 0) (litSt Try.f31.ntmps 352 [29, 0, 1, 2, 30, 10, 8, 9] [272, 336, 0] (I31 n r h c k) (J31 n r h c k))).rt [29, 0, 1, 2, 30, 10, 8, 9] [272, 336, 0]).Ok L =
    bif decide (Int.ofNat k < n) then
      bif decide (k + 1 ≤ 1073741824) then
        L (XK.normal) ([A.int IntKind.i64 n, A.int IntKind.i64 n, A.flt FloatKind.f32 r, A.flt FloatKind.f32 h, A.int IntKind.i64 (IntKind.i64.wrap (Int.ofNat k + Int.ofNat 1)), A.ptr 272 0, A.ptr 0 0, A.bool false]) ([some (O.var [A.sl 336 (k + 1), A.bool true, A.flt FloatKind.f32 c]),   some     (O.row 59 3 (k + 1)       (Row.vecs FloatKind.f32         (fun j =>           match decide (j < k) with           | true => ringX n r j           | false => ([[fop BinOp.mul FloatKind.f32 r (fcvt FloatKind.f64 FloatKind.f32 (sineW (fcvt FloatKind.f32 FloatKind.f64 (fop BinOp.add FloatKind.f32 (fop BinOp.quo FloatKind.f32 (fofInt FloatKind.f32 (Int.ofNat k)) (fofInt FloatKind.f32 n)) (can FloatKind.f32 1048576000))))), fop BinOp.mul FloatKind.f32 r (fcvt FloatKind.f64 FloatKind.f32 (sineW (fcvt FloatKind.f32 FloatKind.f64 (fop BinOp.quo FloatKind.f32 (fofInt FloatKind.f32 (Int.ofNat k)) (fofInt FloatKind.f32 n))))), h]].getD (j - k) []).getD 0 0)         (fun j =>           match decide (j < k) with           | true => ringY n r j           | false => ([[fop BinOp.mul FloatKind.f32 r (fcvt FloatKind.f64 FloatKind.f32 (sineW (fcvt FloatKind.f32 FloatKind.f64 (fop BinOp.add FloatKind.f32 (fop BinOp.quo FloatKind.f32 (fofInt FloatKind.f32 (Int.ofNat k)) (fofInt FloatKind.f32 n)) (can FloatKind.f32 1048576000))))), fop BinOp.mul FloatKind.f32 r (fcvt FloatKind.f64 FloatKind.f32 (sineW (fcvt FloatKind.f32 FloatKind.f64 (fop BinOp.quo FloatKind.f32 (fofInt FloatKind.f32 (Int.ofNat k)) (fofInt FloatKind.f32 n))))), h]].getD (j - k) []).getD 1 0)         fun j =>         match decide (j < k) with         | true => h         | false => ([[fop BinOp.mul FloatKind.f32 r (fcvt FloatKind.f64 FloatKind.f32 (sineW (fcvt FloatKind.f32 FloatKind.f64 (fop BinOp.add FloatKind.f32 (fop BinOp.quo FloatKind.f32 (fofInt FloatKind.f32 (Int.ofNat k)) (fofInt FloatKind.f32 n)) (can FloatKind.f32 1048576000))))), fop BinOp.mul FloatKind.f32 r (fcvt FloatKind.f64 FloatKind.f32 (sineW (fcvt FloatKind.f32 FloatKind.f64 (fop BinOp.quo FloatKind.f32 (fofInt FloatKind.f32 (Int.ofNat k)) (fofInt FloatKind.f32 n))))), h]].getD (j - k) []).getD 2 0)),   some (O.var [A.nils, A.bool false, A.flt FloatKind.f32 0])])
      else
        False
    else
      L (XK.exit 0) ([A.int IntKind.i64 n, A.int IntKind.i64 n, A.flt FloatKind.f32 r, A.flt FloatKind.f32 h, A.int IntKind.i64 (Int.ofNat k), A.ptr 272 0, A.ptr 0 0, A.bool false]) ([some (O.var [A.sl 336 k, A.bool true, A.flt FloatKind.f32 c]), some (O.row 59 3 k (Row.vecs FloatKind.f32 (fun i => ringX n r i) (fun i => ringY n r i) fun x => h)), some (O.var [A.nils, A.bool false, A.flt FloatKind.f32 0])]) := by kernel_rfl
noncomputable def F31 : List A → List (Option O) → Option R3
  | [.int .i64 n2, .int .i64 n, .flt .f32 r, .flt .f32 h, .int .i64 0, .ptr 272 0, .ptr 0 0, .bool false], [some (.var [.sl 336 0, .bool true, .flt .f32 c]), some (.row 59 3 0 g), some (.var [.nils, .bool false, .flt .f32 0])] => some (.ite (decide (n = n2) && decide (n ≤ 1000)) (.leaf .normal (I31 n r h c (n.toNat)) (J31 n r h c (n.toNat))) .fail)
  | _, _ => none
theorem loop31 : CodeOK Try.prog (fun _ σ => sumAt Try.f31.ntmps 352 [29, 0, 1, 2, 30, 10, 8, 9] [272, 336, 0] F31 σ) (.block 0 (.loop (loopOf Try.f31 0))) := by
  refine block_ok (own := fun _ => true) (lp := (fun _ => none)) (un := 0) (fuel := 1000) cfgD_ok (lp_none _) fun az os R hF hok => ?_
  unfold F31 at hF
  split at hF
  · rename_i n2 n r h c g
    injection hF with hF
    subst hF
    have hg := hok.guard
    have hg' := hg
    simp only [Bool.and_eq_true, Nat.ble_eq, Nat.beq_eq, decide_eq_true_eq] at hg'
    obtain ⟨rfl, hn⟩ := hg'
    refine for_fact (ids := [272, 336, 0]) (fun _ => true) (n.toNat) (I31 n r h c) (J31 n r h c) _ (.ret) (I31 n r h c) (I31 n r h c) (I31 n r h c (n.toNat)) (J31 n r h c (n.toNat)) rfl (by unfold J31; exact ⟨rfl, ⟨59, _, rfl, .inr rfl, fun p hp => absurd hp (by omega)⟩, rfl, trivial⟩) (fun _ => rfl) (fun _ => rfl) (fun _ => ALe.self _) (fun _ => rfl) (ALe.self _) (OSims.self _) rfl (fun h => by cases h) (fun k hk L h1 h2 h3 => ?_) fun L hL => ?_
    · rw [round31]

      by_cases hkm : k < n.toNat
      · refine condT (lt_int hkm) ?_
        rw [wrap_succ (by omega)]
        refine condT (decide_eq_true (by omega)) ?_
        exact h1 hkm rfl _ ⟨rfl, ⟨59, _, rfl, .inr rfl, fun p hp => vec_at (app3 (u := ringX n r) rfl hp) (app3 (u := ringY n r) rfl hp) (app3 (u := fun _ => h) rfl hp)⟩, rfl, trivial⟩
      · refine condE (ge_int hkm) ?_
        obtain rfl : k = n.toNat := by omega
        exact h3 rfl
    · exact ⟨fun _ => hL.1 hg, fun N _ h => by cases h⟩
  · cases hF

noncomputable def N31 : St → T := nilW 272 0 59 3 (sumAt Try.f31.ntmps 352 [29, 0, 1, 2, 30, 10, 8, 9] [272, 336, 0] F31)
theorem loopN31 : CodeOK Try.prog (fun _ σ => N31 σ) (.block 0 (.loop (loopOf Try.f31 0))) := nilW_ok loop31
end Go.Fw.W1

/-
  Points of a helix: the loops; rings as wires.
-/
namespace Go.Fw.W1
open Go.Proofs
def helixZ (s i : Nat) : Nat := fop .mul .f32 (fofInt .f32 (Int.ofNat i)) s
noncomputable def I25 (n m : Int) (r s c : Nat) (k : Nat) : List A := [.int .i64 n, .int .i64 m, .flt .f32 r, .flt .f32 s, .int .i64 (Int.ofNat k), .ptr 288 0, .ptr 0 0, .bool false]
noncomputable def J25 (n m : Int) (r s c : Nat) (k : Nat) : List O := [.var [.sl 240 k, .bool false, .flt .f32 c], .row 59 3 k (.vecs .f32 (ringX m r) (ringY m r) (helixZ s)), .var [.emp, .bool false, .flt .f32 0]]
theorem round25 (n m : Int) (r s c : Nat) (k : Nat) (L : XK → List A → List (Option O) → Prop) :
    ((exec cfg34 (fun _ => true) (fun _ => none) 0 1000 (loopOf Try.f25 0) (litSt Try.f25.ntmps 336 [0, 1, 2, 3, 13, 12, 10, 11] [288, 240, 0] (I25 n m r s c k) (J25 n m r s c k))).rt [0, 1, 2, 3, 13, 12, 10, 11] [288, 240, 0]).Ok L =
    bif decide (Int.ofNat k < n) then
      bif decide (k + 1 ≤ 1073741824) then
        L (XK.normal) ([A.int IntKind.i64 n, A.int IntKind.i64 m, A.flt FloatKind.f32 r, A.flt FloatKind.f32 s, A.int IntKind.i64 (IntKind.i64.wrap (Int.ofNat k + Int.ofNat 1)), A.ptr 288 0, A.ptr 0 0, A.bool false]) ([some (O.var [A.sl 240 (k + 1), A.bool false, A.flt FloatKind.f32 c]),   some     (O.row 59 3 (k + 1)       (Row.vecs FloatKind.f32         (fun j =>           match decide (j < k) with           | true => ringX m r j           | false => ([[fop BinOp.mul FloatKind.f32 r (fcvt FloatKind.f64 FloatKind.f32 (sineW (fcvt FloatKind.f32 FloatKind.f64 (fop BinOp.add FloatKind.f32 (fop BinOp.quo FloatKind.f32 (fofInt FloatKind.f32 (Int.ofNat k)) (fofInt FloatKind.f32 m)) (can FloatKind.f32 1048576000))))), fop BinOp.mul FloatKind.f32 r (fcvt FloatKind.f64 FloatKind.f32 (sineW (fcvt FloatKind.f32 FloatKind.f64 (fop BinOp.quo FloatKind.f32 (fofInt FloatKind.f32 (Int.ofNat k)) (fofInt FloatKind.f32 m))))), fop BinOp.mul FloatKind.f32 (fofInt FloatKind.f32 (Int.ofNat k)) s]].getD (j - k) []).getD 0 0)         (fun j =>           match decide (j < k) with           | true => ringY m r j           | false => ([[fop BinOp.mul FloatKind.f32 r (fcvt FloatKind.f64 FloatKind.f32 (sineW (fcvt FloatKind.f32 FloatKind.f64 (fop BinOp.add FloatKind.f32 (fop BinOp.quo FloatKind.f32 (fofInt FloatKind.f32 (Int.ofNat k)) (fofInt FloatKind.f32 m)) (can FloatKind.f32 1048576000))))), fop BinOp.mul FloatKind.f32 r (fcvt FloatKind.f64 FloatKind.f32 (sineW (fcvt FloatKind.f32 FloatKind.f64 (fop BinOp.quo FloatKind.f32 (fofInt FloatKind.f32 (Int.ofNat k)) (fofInt FloatKind.f32 m))))), fop BinOp.mul FloatKind.f32 (fofInt FloatKind.f32 (Int.ofNat k)) s]].getD (j - k) []).getD 1 0)         fun j =>         match decide (j < k) with         | true => helixZ s j         | false => ([[fop BinOp.mul FloatKind.f32 r (fcvt FloatKind.f64 FloatKind.f32 (sineW (fcvt FloatKind.f32 FloatKind.f64 (fop BinOp.add FloatKind.f32 (fop BinOp.quo FloatKind.f32 (fofInt FloatKind.f32 (Int.ofNat k)) (fofInt FloatKind.f32 m)) (can FloatKind.f32 1048576000))))), fop BinOp.mul FloatKind.f32 r (fcvt FloatKind.f64 FloatKind.f32 (sineW (fcvt FloatKind.f32 FloatKind.f64 (fop BinOp.quo FloatKind.f32 (fofInt FloatKind.f32 (Int.ofNat k)) (fofInt FloatKind.f32 m))))), fop BinOp.mul FloatKind.f32 (fofInt FloatKind.f32 (Int.ofNat k)) s]].getD (j - k) []).getD 2 0)),   some (O.var [A.emp, A.bool false, A.flt FloatKind.f32 0])])
      else
        False
    else
      L (XK.exit 0) ([A.int IntKind.i64 n, A.int IntKind.i64 m, A.flt FloatKind.f32 r, A.flt FloatKind.f32 s, A.int IntKind.i64 (Int.ofNat k), A.ptr 288 0, A.ptr 0 0, A.bool false]) ([some (O.var [A.sl 240 k, A.bool false, A.flt FloatKind.f32 c]), some (O.row 59 3 k (Row.vecs FloatKind.f32 (fun i => ringX m r i) (fun i => ringY m r i) fun i => helixZ s i)), some (O.var [A.emp, A.bool false, A.flt FloatKind.f32 0])]) := by kernel_rfl
noncomputable def F25 : List A → List (Option O) → Option R3
  | [.int .i64 n, .int .i64 m, .flt .f32 r, .flt .f32 s, .int .i64 0, .ptr 288 0, .ptr 0 0, .bool false], [some (.var [.sl 240 0, .bool false, .flt .f32 c]), some (.row 59 3 0 g), some (.var [.emp, .bool false, .flt .f32 0])] => some (.ite (decide (n ≤ 1000)) (.leaf .normal (I25 n m r s c (n.toNat)) (J25 n m r s c (n.toNat))) .fail)
  | _, _ => none
theorem loop25 : CodeOK Try.prog (fun _ σ => sumAt Try.f25.ntmps 336 [0, 1, 2, 3, 13, 12, 10, 11] [288, 240, 0] F25 σ) (.block 0 (.loop (loopOf Try.f25 0))) := by
  refine block_ok (own := fun _ => true) (lp := (fun _ => none)) (un := 0) (fuel := 1000) cfg34_ok (lp_none _) fun az os R hF hok => ?_
  unfold F25 at hF
  split at hF
  · rename_i n m r s c g
    injection hF with hF
    subst hF
    have hg := hok.guard
    have hg' := hg
    simp only [Bool.and_eq_true, Nat.ble_eq, Nat.beq_eq, decide_eq_true_eq] at hg'
    have hn := hg'
    refine for_fact (ids := [288, 240, 0]) (fun _ => true) (n.toNat) (I25 n m r s c) (J25 n m r s c) _ (.ret) (I25 n m r s c) (I25 n m r s c) (I25 n m r s c (n.toNat)) (J25 n m r s c (n.toNat)) rfl (by unfold J25; exact ⟨rfl, ⟨59, _, rfl, .inr rfl, fun p hp => absurd hp (by omega)⟩, rfl, trivial⟩) (fun _ => rfl) (fun _ => rfl) (fun _ => ALe.self _) (fun _ => rfl) (ALe.self _) (OSims.self _) rfl (fun h => by cases h) (fun k hk L h1 h2 h3 => ?_) fun L hL => ?_
    · rw [round25]

      by_cases hkm : k < n.toNat
      · refine condT (lt_int hkm) ?_
        rw [wrap_succ (by omega)]
        refine condT (decide_eq_true (by omega)) ?_
        exact h1 hkm rfl _ ⟨rfl, ⟨59, _, rfl, .inr rfl, fun p hp => vec_at (app3 (u := ringX m r) rfl hp) (app3 (u := ringY m r) rfl hp) (app3 (u := helixZ s) rfl hp)⟩, rfl, trivial⟩
      · refine condE (ge_int hkm) ?_
        obtain rfl : k = n.toNat := by omega
        exact h3 rfl
    · exact ⟨fun _ => hL.1 hg, fun N _ h => by cases h⟩
  · cases hF

noncomputable def I26 (n m : Int) (r s c : Nat) (k : Nat) : List A := [.int .i64 n, .int .i64 n, .int .i64 m, .flt .f32 r, .flt .f32 s, .int .i64 (Int.ofNat k), .ptr 352 0, .ptr 0 0, .bool false]
noncomputable def J26 (n m : Int) (r s c : Nat) (k : Nat) : List O := [.var [.sl 416 k, .bool false, .flt .f32 c], .row 59 3 k (.vecs .f32 (ringX m r) (ringY m r) (helixZ s)), .var [.nils, .bool false, .flt .f32 0]]
theorem round26 (n m : Int) (r s c : Nat) (k : Nat) (L : XK → List A → List (Option O) → Prop) :
    ((exec cfgD (fun _ => true) (fun _ => none) 0 1000 (loopOf Try.f26 0) (litSt Try.f26.ntmps 432 [36, 0, 1, 2, 3, 37, 12, 10, 11] [352, 416, 0] (I26 n m r s c k) (J26 n m r s c k))).rt [36, 0, 1, 2, 3, 37, 12, 10, 11] [352, 416, 0]).Ok L =
    bif decide (Int.ofNat k < n) then
      bif decide (k + 1 ≤ 1073741824) then
        L (XK.normal) ([A.int IntKind.i64 n, A.int IntKind.i64 n, A.int IntKind.i64 m, A.flt FloatKind.f32 r, A.flt FloatKind.f32 s, A.int IntKind.i64 (IntKind.i64.wrap (Int.ofNat k + Int.ofNat 1)), A.ptr 352 0, A.ptr 0 0, A.bool false]) ([some (O.var [A.sl 416 (k + 1), A.bool false, A.flt FloatKind.f32 c]),   some     (O.row 59 3 (k + 1)       (Row.vecs FloatKind.f32         (fun j =>           match decide (j < k) with           | true => ringX m r j           | false => ([[fop BinOp.mul FloatKind.f32 r (fcvt FloatKind.f64 FloatKind.f32 (sineW (fcvt FloatKind.f32 FloatKind.f64 (fop BinOp.add FloatKind.f32 (fop BinOp.quo FloatKind.f32 (fofInt FloatKind.f32 (Int.ofNat k)) (fofInt FloatKind.f32 m)) (can FloatKind.f32 1048576000))))), fop BinOp.mul FloatKind.f32 r (fcvt FloatKind.f64 FloatKind.f32 (sineW (fcvt FloatKind.f32 FloatKind.f64 (fop BinOp.quo FloatKind.f32 (fofInt FloatKind.f32 (Int.ofNat k)) (fofInt FloatKind.f32 m))))), fop BinOp.mul FloatKind.f32 (fofInt FloatKind.f32 (Int.ofNat k)) s]].getD (j - k) []).getD 0 0)         (fun j =>           match decide (j < k) with           | true => ringY m r j           | false => ([[fop BinOp.mul FloatKind.f32 r (fcvt FloatKind.f64 FloatKind.f32 (sineW (fcvt FloatKind.f32 FloatKind.f64 (fop BinOp.add FloatKind.f32 (fop BinOp.quo FloatKind.f32 (fofInt FloatKind.f32 (Int.ofNat k)) (fofInt FloatKind.f32 m)) (can FloatKind.f32 1048576000))))), fop BinOp.mul FloatKind.f32 r (fcvt FloatKind.f64 FloatKind.f32 (sineW (fcvt FloatKind.f32 FloatKind.f64 (fop BinOp.quo FloatKind.f32 (fofInt FloatKind.f32 (Int.ofNat k)) (fofInt FloatKind.f32 m))))), fop BinOp.mul FloatKind.f32 (fofInt FloatKind.f32 (Int.ofNat k)) s]].getD (j - k) []).getD 1 0)         fun j =>         match decide (j < k) with         | true => helixZ s j         | false => ([[fop BinOp.mul FloatKind.f32 r (fcvt FloatKind.f64 FloatKind.f32 (sineW (fcvt FloatKind.f32 FloatKind.f64 (fop BinOp.add FloatKind.f32 (fop BinOp.quo FloatKind.f32 (fofInt FloatKind.f32 (Int.ofNat k)) (fofInt FloatKind.f32 m)) (can FloatKind.f32 1048576000))))), fop BinOp.mul FloatKind.f32 r (fcvt FloatKind.f64 FloatKind.f32 (sineW (fcvt FloatKind.f32 FloatKind.f64 (fop BinOp.quo FloatKind.f32 (fofInt FloatKind.f32 (Int.ofNat k)) (fofInt FloatKind.f32 m))))), fop BinOp.mul FloatKind.f32 (fofInt FloatKind.f32 (Int.ofNat k)) s]].getD (j - k) []).getD 2 0)),   some (O.var [A.nils, A.bool false, A.flt FloatKind.f32 0])])
      else
        False
    else
      L (XK.exit 0) ([A.int IntKind.i64 n, A.int IntKind.i64 n, A.int IntKind.i64 m, A.flt FloatKind.f32 r, A.flt FloatKind.f32 s, A.int IntKind.i64 (Int.ofNat k), A.ptr 352 0, A.ptr 0 0, A.bool false]) ([some (O.var [A.sl 416 k, A.bool false, A.flt FloatKind.f32 c]), some (O.row 59 3 k (Row.vecs FloatKind.f32 (fun i => ringX m r i) (fun i => ringY m r i) fun i => helixZ s i)), some (O.var [A.nils, A.bool false, A.flt FloatKind.f32 0])]) := by kernel_rfl
noncomputable def F26 : List A → List (Option O) → Option R3
  | [.int .i64 n2, .int .i64 n, .int .i64 m, .flt .f32 r, .flt .f32 s, .int .i64 0, .ptr 352 0, .ptr 0 0, .bool false], [some (.var [.sl 416 0, .bool false, .flt .f32 c]), some (.row 59 3 0 g), some (.var [.nils, .bool false, .flt .f32 0])] => some (.ite (decide (n = n2) && decide (n ≤ 1000)) (.leaf .normal (I26 n m r s c (n.toNat)) (J26 n m r s c (n.toNat))) .fail)
  | _, _ => none
theorem loop26 : CodeOK Try.prog (fun _ σ => sumAt Try.f26.ntmps 432 [36, 0, 1, 2, 3, 37, 12, 10, 11] [352, 416, 0] F26 σ) (.block 0 (.loop (loopOf Try.f26 0))) := by
  refine block_ok (own := fun _ => true) (lp := (fun _ => none)) (un := 0) (fuel := 1000) cfgD_ok (lp_none _) fun az os R hF hok => ?_
  unfold F26 at hF
  split at hF
  · rename_i n2 n m r s c g
    injection hF with hF
    subst hF
    have hg := hok.guard
    have hg' := hg
    simp only [Bool.and_eq_true, Nat.ble_eq, Nat.beq_eq, decide_eq_true_eq] at hg'
    obtain ⟨rfl, hn⟩ := hg'
    refine for_fact (ids := [352, 416, 0]) (fun _ => true) (n.toNat) (I26 n m r s c) (J26 n m r s c) _ (.ret) (I26 n m r s c) (I26 n m r s c) (I26 n m r s c (n.toNat)) (J26 n m r s c (n.toNat)) rfl (by unfold J26; exact ⟨rfl, ⟨59, _, rfl, .inr rfl, fun p hp => absurd hp (by omega)⟩, rfl, trivial⟩) (fun _ => rfl) (fun _ => rfl) (fun _ => ALe.self _) (fun _ => rfl) (ALe.self _) (OSims.self _) rfl (fun h => by cases h) (fun k hk L h1 h2 h3 => ?_) fun L hL => ?_
    · rw [round26]

      by_cases hkm : k < n.toNat
      · refine condT (lt_int hkm) ?_
        rw [wrap_succ (by omega)]
        refine condT (decide_eq_true (by omega)) ?_
        exact h1 hkm rfl _ ⟨rfl, ⟨59, _, rfl, .inr rfl, fun p hp => vec_at (app3 (u := ringX m r) rfl hp) (app3 (u := ringY m r) rfl hp) (app3 (u := helixZ s) rfl hp)⟩, rfl, trivial⟩
      · refine condE (ge_int hkm) ?_
        obtain rfl : k = n.toNat := by omega
        exact h3 rfl
    · exact ⟨fun _ => hL.1 hg, fun N _ h => by cases h⟩
  · cases hF

noncomputable def N26 : St → T := nilW 352 0 59 3 (sumAt Try.f26.ntmps 432 [36, 0, 1, 2, 3, 37, 12, 10, 11] [352, 416, 0] F26)
theorem loopN26 : CodeOK Try.prog (fun _ σ => N26 σ) (.block 0 (.loop (loopOf Try.f26 0))) := nilW_ok loop26
end Go.Fw.W1

/-
  Rings and helices as wires.
-/
namespace Go.Fw.W1
open Go.Proofs
noncomputable def lp84 : List (Nat × (St → T)) := [(0, sumAt Try.f84.ntmps 112 [0, 1, 2, 10, 9, 8] [64, 16, 0] F84)]
theorem lp84_ok : LpOK Try.prog (look lp84) (bodyOf Try.f84) := lp_loops (by kernel_rfl) (by kernel_rfl) fun p hp => by
  simp only [lp84, List.mem_cons, List.not_mem_nil, or_false] at hp
  rcases hp with rfl
  · exact loop84
theorem auto84 (n : Int) (r h c : Nat) : autoLp cfg34 (look lp84) Try.f84 [.int .i64 n, .flt .f32 r, .flt .f32 h, .flt .f32 c] =
    some (decide (n ≤ 1000) && true, A.agg [A.ro 3 n.toNat (Row.vecs FloatKind.f32 (fun i => ringX n r i) (fun i => ringY n r i) fun x => h), A.bool true, A.flt FloatKind.f32 c]) := by kernel_rfl
noncomputable def s84 : List A → Option (Bool × A)
  | [.int .i64 n, .flt .f32 r, .flt .f32 h, .flt .f32 c] => some (decide (n ≤ 1000), .agg [.ro 3 n.toNat (.vecs .f32 (ringX n r) (ringY n r) (fun _ => h)), .bool true, .flt .f32 c])
  | _ => none
theorem s84_at : EnvAt Try.prog 84 s84 := of_auto cfg34_ok lp84_ok Try.func84 (by kernel_rfl) (by kernel_rfl) fun ds cc rr h hc => by
  unfold s84 at h
  split at h
  · rename_i n r h c
    simp only [Option.some.injEq, Prod.mk.injEq] at h
    obtain ⟨rfl, rfl⟩ := h
    refine auto_fit (auto84 n r h c) ?_ ?_
    · rfl
    · rw [hc]; rfl
  · cases h

noncomputable def env35 : List (Nat × (List A → Option (Bool × A))) := (84, s84) :: env34
theorem env35_ok : EnvOK Try.prog (look env35) := (env_cons s84_at env34_ok)
noncomputable def cfg35 : Cfg := mkCfg tab [] xts (look env35)
theorem cfg35_ok : CfgOK Try.prog cfg35 := cfg_ok tab_eq (no_fts _) xts_ok env35_ok mixed
noncomputable def fts75 : List (Nat × Func) := [(75, Try.f75), (81, Try.f81)]
theorem fts75_ok (f : Nat) (fn : Func) (h : (f, fn) ∈ fts75) : Try.prog.funcs[f]? = some fn ∧ (fn.name == "runtime.NumGoroutine") = false := by
  simp only [fts75, List.mem_cons, Prod.mk.injEq, List.not_mem_nil, or_false] at h
  rcases h with ⟨rfl, rfl⟩ | ⟨rfl, rfl⟩
  · exact ⟨Try.func75, by kernel_rfl⟩
  · exact ⟨Try.func81, by kernel_rfl⟩
noncomputable def cfgG : Cfg := mkCfg tab fts75 xts (look env35)
theorem cfgG_ok : CfgOK Try.prog cfgG := cfg_ok tab_eq fts75_ok xts_ok env35_ok mixed
noncomputable def cfgGD : Cfg := mkCfg (nilTab tab) fts75 xts (look env35)
theorem cfgGD_ok : CfgOK Try.prog cfgGD := cfgN_ok' tab_eq fts75_ok xts_ok env35_ok mixed
end Go.Fw.W1

/-
  Rings as wires: contracts.
-/
namespace Go.Fw.W1
open Go.Proofs
noncomputable def ringOk (n : Int) (r h c : Nat) : Bool := (bif decide (n ≥ 3) then decide (n ≤ 48) else false) && above r && okW n.toNat c (ringX n r) (ringY n r) (fun _ => h)
theorem ring_ok {n : Int} {r h c : Nat} (hr : ringOk n r h c = true) : (bif decide (n ≥ 3) then decide (n ≤ 48) else false) = true ∧ above r = true ∧ okW n.toNat c (ringX n r) (ringY n r) (fun _ => h) = true ∧ 3 ≤ n ∧ n ≤ 48 := by
  unfold ringOk at hr
  simp only [Bool.and_eq_true] at hr
  refine ⟨hr.1.1, hr.1.2, hr.2, ?_⟩
  have h1 := hr.1.1
  by_cases h3 : n ≥ 3
  · rw [decide_eq_true h3] at h1; exact ⟨h3, of_decide_eq_true h1⟩
  · rw [decide_eq_false h3] at h1; cases h1
theorem okW_fin {n cur : Nat} {x y : Nat → Nat} {h : Nat} (hw : okW n cur x y (fun _ => h) = true) : fin h = true := by
  unfold okW at hw
  simp only [Bool.and_eq_true, decide_eq_true_eq] at hw
  have := allUpTo_iff.1 hw.2 0 (by omega)
  unfold vfinAt vfin at this
  revert this
  cases fin (x 0) <;> cases fin (y 0) <;> cases fin h <;> simp
theorem auto30T (n : Int) (r h c : Nat) : autoS cfgG (fun _ => none) false Try.f30 [.int .i64 n, .flt .f32 r, .flt .f32 h, .flt .f32 c] =
    some ((!bif !bif decide (n ≥ 3) then decide (n ≤ 48) else false then true else !above r) && (decide (n ≤ 1000) && (n.toNat.ble 4611686018427387000 && ((!!okW n.toNat c (ringX n r) (ringY n r) fun x => h) && true))), A.tup [A.agg [A.ro 3 n.toNat (Row.vecs FloatKind.f32 (fun i => ringX n r i) (fun i => ringY n r i) fun x => h), A.bool true, A.flt FloatKind.f32 c], A.bool true]) := by kernel_rfl
noncomputable def s30T : List A → Option (Bool × A)
  | [.int .i64 n, .flt .f32 r, .flt .f32 h, .flt .f32 c] => some (ringOk n r h c, .tup [.agg [.ro 3 n.toNat (.vecs .f32 (ringX n r) (ringY n r) (fun _ => h)), .bool true, .flt .f32 c], .bool true])
  | _ => none
theorem s30T_at : EnvAt Try.prog 30 s30T := of_autoS cfgG_ok (lp_none _) Try.func30 (by kernel_rfl) (by kernel_rfl) fun ds cc rr h hc => by
  unfold s30T at h
  split at h
  · rename_i n r h c
    simp only [Option.some.injEq, Prod.mk.injEq] at h
    obtain ⟨rfl, rfl⟩ := h
    refine auto_fit (auto30T n r h c) ?_ ?_
    · rfl
    · obtain ⟨h1, h2, h3, h4, h5⟩ := ring_ok hc
      rw [h1, h2, h3, decide_eq_true (show n ≤ 1000 by omega), ble_of (show n.toNat ≤ 4611686018427387000 by omega)]; rfl
  · cases h

theorem auto30F (n : Int) (r h c : Nat) : autoS cfgG (fun _ => none) true Try.f30 [.int .i64 n, .flt .f32 r, .flt .f32 h, .flt .f32 c] =
    some (bif bif !bif decide (n ≥ 3) then decide (n ≤ 48) else false then true else !above r then true else decide (n ≤ 1000) && (n.toNat.ble 4611686018427387000 && ((!okW n.toNat c (ringX n r) (ringY n r) fun x => h) && true)), A.tup [A.agg [A.emp, A.bool (bif bif !bif decide (n ≥ 3) then decide (n ≤ 48) else false then true else !above r then false else false), A.flt FloatKind.f32 (bif bif !bif decide (n ≥ 3) then decide (n ≤ 48) else false then true else !above r then 0 else 0)], A.bool (bif bif !bif decide (n ≥ 3) then decide (n ≤ 48) else false then true else !above r then false else false)]) := by kernel_rfl
noncomputable def s30F : List A → Option (Bool × A)
  | [.int .i64 n, .flt .f32 r, .flt .f32 h, .flt .f32 c] => some (!ringOk n r h c, .tup [.agg [.emp, .bool false, .flt .f32 0], .bool false])
  | _ => none
theorem s30F_at : EnvAt Try.prog 30 s30F := of_autoS cfgG_ok (lp_none _) Try.func30 (by kernel_rfl) (by kernel_rfl) fun ds cc rr h hc => by
  unfold s30F at h
  split at h
  · rename_i n r h c
    simp only [Option.some.injEq, Prod.mk.injEq] at h
    obtain ⟨rfl, rfl⟩ := h
    refine auto_fit (auto30F n r h c) ?_ ?_
    · simp only [Bool.cond_self]
    · unfold ringOk at hc
      cases hA : (bif decide (n ≥ 3) then decide (n ≤ 48) else false)
      · rfl
      · cases hB : above r
        · rfl
        · rw [hA, hB] at hc
          have hC : okW n.toNat c (ringX n r) (ringY n r) (fun _ => h) = false := by simpa using hc
          have h5 : n ≤ 48 := by
            by_cases h3 : n ≥ 3
            · rw [decide_eq_true h3] at hA; exact of_decide_eq_true hA
            · rw [decide_eq_false h3] at hA; cases hA
          rw [hC, decide_eq_true (show n ≤ 1000 by omega), ble_of (show n.toNat ≤ 4611686018427387000 by omega)]; rfl
  · cases h

noncomputable def lp31T : List (Nat × (St → T)) := [(0, N31)]
theorem lp31T_ok : LpOK Try.prog (look lp31T) (bodyOf Try.f31) := lp_loops (by kernel_rfl) (by kernel_rfl) fun p hp => by
  simp only [lp31T, List.mem_cons, List.not_mem_nil, or_false] at hp
  rcases hp with rfl
  · exact loopN31
theorem auto31T (n : Int) (r h c : Nat) : autoS cfgGD (look lp31T) false Try.f31 [.int .i64 n, .flt .f32 r, .flt .f32 h, .flt .f32 c] =
    some ((!bif bif !inI n (Int.ofNat 3) (Int.ofNat 48) then true else !above r then true else !fin h) && (decide (n = n) && decide (n ≤ 1000) && (n.toNat.ble 4611686018427387000 && ((!!okW n.toNat c (ringX n r) (ringY n r) fun x => h) && true))), A.tup [A.agg [A.ro 3 n.toNat (Row.vecs FloatKind.f32 (fun i => ringX n r i) (fun i => ringY n r i) fun x => h), A.bool true, A.flt FloatKind.f32 c], A.bool true]) := by kernel_rfl
noncomputable def s31T : List A → Option (Bool × A)
  | [.int .i64 n, .flt .f32 r, .flt .f32 h, .flt .f32 c] => some (ringOk n r h c, .tup [.agg [.ro 3 n.toNat (.vecs .f32 (ringX n r) (ringY n r) (fun _ => h)), .bool true, .flt .f32 c], .bool true])
  | _ => none
theorem s31T_at : EnvAt Try.prog 31 s31T := of_autoS cfgGD_ok lp31T_ok Try.func31 (by kernel_rfl) (by kernel_rfl) fun ds cc rr h hc => by
  unfold s31T at h
  split at h
  · rename_i n r h c
    simp only [Option.some.injEq, Prod.mk.injEq] at h
    obtain ⟨rfl, rfl⟩ := h
    refine auto_fit (auto31T n r h c) ?_ ?_
    · rfl
    · obtain ⟨h1, h2, h3, h4, h5⟩ := ring_ok hc
      have h1' : inI n (Int.ofNat 3) (Int.ofNat 48) = true := h1
      rw [h1', h2, h3, okW_fin h3, decide_eq_true (show n ≤ 1000 by omega), decide_eq_true rfl, ble_of (show n.toNat ≤ 4611686018427387000 by omega)]; rfl
  · cases h

noncomputable def lp31N : List (Nat × (St → T)) := [(0, N31)]
theorem lp31N_ok : LpOK Try.prog (look lp31N) (bodyOf Try.f31) := lp_loops (by kernel_rfl) (by kernel_rfl) fun p hp => by
  simp only [lp31N, List.mem_cons, List.not_mem_nil, or_false] at hp
  rcases hp with rfl
  · exact loopN31
theorem auto31N (n : Int) (r h c : Nat) : autoS cfgGD (look lp31N) true Try.f31 [.int .i64 n, .flt .f32 r, .flt .f32 h, .flt .f32 c] =
    some (bif bif bif !inI n (Int.ofNat 3) (Int.ofNat 48) then true else !above r then true else !fin h then true else decide (n = n) && decide (n ≤ 1000) && (n.toNat.ble 4611686018427387000 && ((!okW n.toNat c (ringX n r) (ringY n r) fun x => h) && true)), A.tup [A.agg [A.nils, A.bool (bif bif bif !inI n (Int.ofNat 3) (Int.ofNat 48) then true else !above r then true else !fin h then false else false), A.flt FloatKind.f32 (bif bif bif !inI n (Int.ofNat 3) (Int.ofNat 48) then true else !above r then true else !fin h then 0 else 0)], A.bool (bif bif bif !inI n (Int.ofNat 3) (Int.ofNat 48) then true else !above r then true else !fin h then false else false)]) := by kernel_rfl
noncomputable def s31N : List A → Option (Bool × A)
  | [.int .i64 n, .flt .f32 r, .flt .f32 h, .flt .f32 c] => some (!ringOk n r h c, .tup [.agg [.nils, .bool false, .flt .f32 0], .bool false])
  | _ => none
theorem s31N_at : EnvAt Try.prog 31 s31N := of_autoS cfgGD_ok lp31N_ok Try.func31 (by kernel_rfl) (by kernel_rfl) fun ds cc rr h hc => by
  unfold s31N at h
  split at h
  · rename_i n r h c
    simp only [Option.some.injEq, Prod.mk.injEq] at h
    obtain ⟨rfl, rfl⟩ := h
    refine auto_fit (auto31N n r h c) ?_ ?_
    · simp only [Bool.cond_self]
    · unfold ringOk at hc
      cases hA : inI n (Int.ofNat 3) (Int.ofNat 48)
      · rfl
      · cases hB : above r
        · rfl
        · have hA' : (bif decide (n ≥ 3) then decide (n ≤ 48) else false) = true := hA
          rw [hA', hB] at hc
          have hC : okW n.toNat c (ringX n r) (ringY n r) (fun _ => h) = false := by simpa using hc
          have h5 : n ≤ 48 := by
            by_cases h3 : n ≥ 3
            · rw [decide_eq_true h3] at hA'; exact of_decide_eq_true hA'
            · rw [decide_eq_false h3] at hA'; cases hA'
          rw [hC, decide_eq_true (show n ≤ 1000 by omega), decide_eq_true rfl, ble_of (show n.toNat ≤ 4611686018427387000 by omega)]
          cases fin h <;> rfl
  · cases h

noncomputable def s31F : List A → Option (Bool × A)
  | [.int .i64 n, .flt .f32 r, .flt .f32 h, .flt .f32 c] => some (!ringOk n r h c, .tup [.agg [.emp, .bool false, .flt .f32 0], .bool false])
  | _ => none
theorem s31F_at : EnvAt Try.prog 31 s31F := by
  refine ⟨s31N_at.1, fun ds c r h hc => ?_⟩
  unfold s31F at h
  split at h
  · rename_i n r hh cc
    simp only [Option.some.injEq, Prod.mk.injEq] at h
    obtain ⟨rfl, rfl⟩ := h
    exact (s31N_at.2 [.int .i64 n, .flt .f32 r, .flt .f32 hh, .flt .f32 cc] _ _ rfl hc).emp_of
  · cases h
end Go.Fw.W1

/-
  Marks of vectors, held.
-/
namespace Go.Fw.W1
open Go.Proofs
def mk3 (k0 k j : Nat) : Nat := fofInt .f32 (Int.ofNat (k0 + 3 * k + j))
def heldV (x y z : Nat → Nat) (k0 k : Nat) : Bool := (forder .f32 (x k) (mk3 k0 k 0) == some .eq) && (forder .f32 (y k) (mk3 k0 k 1) == some .eq) && (forder .f32 (z k) (mk3 k0 k 2) == some .eq)
def stepV (x y : Nat → Nat) (k0 k : Nat) : Nat := bif (forder .f32 (x k) (mk3 k0 k 0) == some .eq) then (bif (forder .f32 (y k) (mk3 k0 k 1) == some .eq) then 2 else 1) else 0
noncomputable def I83 (n k0 : Nat) (x y z : Nat → Nat) (k : Nat) : List A := [.ro 3 n (.vecs .f32 x y z), .int .i64 (Int.ofNat (k0 + 3 * k)), .int .i64 (Int.ofNat k), .int .i64 (Int.ofNat 0)]
noncomputable def J83 (n k0 : Nat) (x y z : Nat → Nat) (k : Nat) : List O := []
theorem round83 (n k0 : Nat) (x y z : Nat → Nat) (k : Nat) (L : XK → List A → List (Option O) → Prop) :
    ((exec cfg35 (fun _ => true) (fun _ => none) 0 1000 (loopOf Try.f83 0) (litSt Try.f83.ntmps 32 [0, 1, 5, 4] [] (I83 n k0 x y z k) (J83 n k0 x y z k))).rt [0, 1, 5, 4] []).Ok L =
    bif decide (Int.ofNat k < Int.ofNat n) then
      bif decide (Int.ofNat k < Int.ofNat n) then
        bif forder FloatKind.f32 (x k) (fofInt FloatKind.f32 (Int.ofNat (k0 + 3 * k))) != some Ordering.eq then
          L (XK.ret) ([A.ro 3 n (Row.vecs FloatKind.f32 x y z), A.int IntKind.i64 (Int.ofNat (k0 + 3 * k)), A.int IntKind.i64 (Int.ofNat k), A.int IntKind.i64 (Int.negSucc 0)]) ([])
        else
          bif decide (Int.ofNat k < Int.ofNat n) then
            bif forder FloatKind.f32 (y k) (fofInt FloatKind.f32 (IntKind.i64.wrap (Int.ofNat (k0 + 3 * k) + Int.ofNat 1))) != some Ordering.eq then
              L (XK.ret) ([A.ro 3 n (Row.vecs FloatKind.f32 x y z), A.int IntKind.i64 (IntKind.i64.wrap (Int.ofNat (k0 + 3 * k) + Int.ofNat 1)), A.int IntKind.i64 (Int.ofNat k), A.int IntKind.i64 (Int.negSucc 0)]) ([])
            else
              bif decide (Int.ofNat k < Int.ofNat n) then
                bif forder FloatKind.f32 (z k) (fofInt FloatKind.f32 (IntKind.i64.wrap (IntKind.i64.wrap (Int.ofNat (k0 + 3 * k) + Int.ofNat 1) + Int.ofNat 1))) != some Ordering.eq then
                  L (XK.ret) ([A.ro 3 n (Row.vecs FloatKind.f32 x y z), A.int IntKind.i64 (IntKind.i64.wrap (IntKind.i64.wrap (Int.ofNat (k0 + 3 * k) + Int.ofNat 1) + Int.ofNat 1)), A.int IntKind.i64 (Int.ofNat k), A.int IntKind.i64 (Int.negSucc 0)]) ([])
                else
                  L (XK.normal) ([A.ro 3 n (Row.vecs FloatKind.f32 x y z), A.int IntKind.i64 (IntKind.i64.wrap (IntKind.i64.wrap (IntKind.i64.wrap (Int.ofNat (k0 + 3 * k) + Int.ofNat 1) + Int.ofNat 1) + Int.ofNat 1)), A.int IntKind.i64 (IntKind.i64.wrap (Int.ofNat k + Int.ofNat 1)), A.int IntKind.i64 (Int.ofNat 0)]) ([])
              else
                False
          else
            False
      else
        False
    else
      L (XK.exit 0) ([A.ro 3 n (Row.vecs FloatKind.f32 x y z), A.int IntKind.i64 (Int.ofNat (k0 + 3 * k)), A.int IntKind.i64 (Int.ofNat k), A.int IntKind.i64 (Int.ofNat 0)]) ([]) := by kernel_rfl
noncomputable def F83 : List A → List (Option O) → Option R3
  | [.ro 3 n (.vecs .f32 x y z), .int .i64 (.ofNat k0), .int .i64 0, .int .i64 0], [] => some (.ite (Nat.ble n 1048577 && Nat.ble k0 1000000000) (.ite (allUpTo (fun k => heldV x y z k0 k) (n)) (.leaf .normal (I83 n k0 x y z (n)) (J83 n k0 x y z (n))) (.leaf (.ret) ((fun k => [.ro 3 n (.vecs .f32 x y z), .int .i64 (Int.ofNat (k0 + 3 * k + stepV x y k0 k)), .int .i64 (Int.ofNat k), .int .i64 (-1)]) (firstIdx (fun k => heldV x y z k0 k) (n))) (J83 n k0 x y z (firstIdx (fun k => heldV x y z k0 k) (n))))) .fail)
  | _, _ => none
theorem loop83 : CodeOK Try.prog (fun _ σ => sumAt Try.f83.ntmps 32 [0, 1, 5, 4] [] F83 σ) (.block 0 (.loop (loopOf Try.f83 0))) := by
  refine block_ok (own := fun _ => true) (lp := (fun _ => none)) (un := 0) (fuel := 1000) cfg35_ok (lp_none _) fun az os R hF hok => ?_
  unfold F83 at hF
  split at hF
  · rename_i n x y z k0
    injection hF with hF
    subst hF
    have hg := hok.guard
    have hg' := hg
    simp only [Bool.and_eq_true, Nat.ble_eq, Nat.beq_eq, decide_eq_true_eq] at hg'
    obtain ⟨hn, hk0⟩ := hg'
    refine for_fact (ids := []) (fun k => heldV x y z k0 k) (n) (I83 n k0 x y z) (J83 n k0 x y z) _ (.ret) (fun k => [.ro 3 n (.vecs .f32 x y z), .int .i64 (Int.ofNat (k0 + 3 * k + stepV x y k0 k)), .int .i64 (Int.ofNat k), .int .i64 (-1)]) (fun k => [.ro 3 n (.vecs .f32 x y z), .int .i64 (Int.ofNat (k0 + 3 * k + stepV x y k0 k)), .int .i64 (Int.ofNat k), .int .i64 (-1)]) (I83 n k0 x y z (n)) (J83 n k0 x y z (n)) rfl (OSims.self _) (fun _ => rfl) (fun _ => rfl) (fun _ => ALe.self _) (fun _ => rfl) (ALe.self _) (OSims.self _) rfl (fun h => by cases h) (fun k hk L h1 h2 h3 => ?_) fun L hL => ?_
    · rw [round83]

      by_cases hkm : k < n
      · refine condT (lt_dec hkm) ?_
        have m0 : mk3 k0 k 0 = fofInt .f32 (Int.ofNat (k0 + 3 * k)) := rfl
        have m1 : mk3 k0 k 1 = fofInt .f32 (Int.ofNat (k0 + 3 * k + 1)) := rfl
        have m2 : mk3 k0 k 2 = fofInt .f32 (Int.ofNat (k0 + 3 * k + 1 + 1)) := rfl
        rw [wrap_succ (show k0 + 3 * k ≤ 4611686018427387000 by omega), wrap_succ (show k0 + 3 * k + 1 ≤ 4611686018427387000 by omega), wrap_succ (show k0 + 3 * k + 1 + 1 ≤ 4611686018427387000 by omega), wrap_succ (show k ≤ 4611686018427387000 by omega)]
        refine condT (lt_dec hkm) ?_
        cases e1 : (forder .f32 (x k) (fofInt .f32 (Int.ofNat (k0 + 3 * k))) == some Ordering.eq)
        · refine condT (by rw [bne, e1]; rfl) ?_
          have es : stepV x y k0 k = 0 := by unfold stepV; rw [m0, e1]; rfl
          have e := h2 hkm (by unfold heldV; rw [m0, e1]; rfl)
          rw [es] at e
          exact e
        · refine condE (by rw [bne, e1]; rfl) ?_
          refine condT (lt_dec hkm) ?_
          cases e2 : (forder .f32 (y k) (fofInt .f32 (Int.ofNat (k0 + 3 * k + 1))) == some Ordering.eq)
          · refine condT (by rw [bne, e2]; rfl) ?_
            have es : stepV x y k0 k = 1 := by unfold stepV; rw [m0, e1, m1, e2]; rfl
            have e := h2 hkm (by unfold heldV; rw [m0, e1, m1, e2]; rfl)
            rw [es] at e
            exact e
          · refine condE (by rw [bne, e2]; rfl) ?_
            refine condT (lt_dec hkm) ?_
            cases e3 : (forder .f32 (z k) (fofInt .f32 (Int.ofNat (k0 + 3 * k + 1 + 1))) == some Ordering.eq)
            · refine condT (by rw [bne, e3]; rfl) ?_
              have es : stepV x y k0 k = 2 := by unfold stepV; rw [m0, e1, m1, e2]; rfl
              have e := h2 hkm (by unfold heldV; rw [m0, e1, m1, e2, m2, e3]; rfl)
              rw [es] at e
              exact e
            · refine condE (by rw [bne, e3]; rfl) ?_
              rw [show k0 + 3 * k + 1 + 1 + 1 = k0 + 3 * (k + 1) by omega]
              exact h1 hkm (by unfold heldV; rw [m0, e1, m1, e2, m2, e3]; rfl) _ trivial
      · refine condE (ge_dec (by omega)) ?_
        obtain rfl : k = n := by omega
        exact h3 rfl
    · exact ⟨fun h => (hL.1 hg).1 h, fun N hN hf hall => by
        have := (hL.1 hg).2 (allUpTo_false hN hf)
        rw [firstIdx_eq hN hf hall] at this
        exact this⟩
  · cases hF

noncomputable def lp83 : List (Nat × (St → T)) := [(0, sumAt Try.f83.ntmps 32 [0, 1, 5, 4] [] F83)]
theorem lp83_ok : LpOK Try.prog (look lp83) (bodyOf Try.f83) := lp_loops (by kernel_rfl) (by kernel_rfl) fun p hp => by
  simp only [lp83, List.mem_cons, List.not_mem_nil, or_false] at hp
  rcases hp with rfl
  · exact loop83
theorem auto83 (n k0 : Nat) (x y z : Nat → Nat) : autoS cfg35 (look lp83) false Try.f83 [.ro 3 n (.vecs .f32 x y z), .int .i64 (.ofNat k0)] =
    some (n.ble 1048577 && k0.ble 1000000000 && bif allUpTo (fun k => heldV x y z k0 k) n then true else true, A.int IntKind.i64 (bif allUpTo (fun k => heldV x y z k0 k) n then Int.ofNat (k0 + 3 * n) else Int.negSucc 0)) := by kernel_rfl
noncomputable def s83 : List A → Option (Bool × A)
  | [.ro 3 n (.vecs .f32 x y z), .int .i64 (.ofNat k0)] => some (Nat.ble n 1048577 && Nat.ble k0 1000000000 && allUpTo (heldV x y z k0) n, .int .i64 (Int.ofNat (k0 + 3 * n)))
  | _ => none
theorem s83_at : EnvAt Try.prog 83 s83 := of_autoS cfg35_ok lp83_ok Try.func83 (by kernel_rfl) (by kernel_rfl) fun ds cc rr h hc => by
  unfold s83 at h
  split at h
  · rename_i n x y z k0
    simp only [Option.some.injEq, Prod.mk.injEq] at h
    obtain ⟨rfl, rfl⟩ := h
    refine auto_fit (auto83 n k0 x y z) ?_ ?_
    · simp only [Bool.and_eq_true] at hc
      have e : allUpTo (fun k => heldV x y z k0 k) n = true := hc.2
      rw [e]; rfl
    · simp only [Bool.and_eq_true] at hc
      rw [hc.1.1, hc.1.2, Bool.cond_self]; rfl
  · cases h

noncomputable def env36 : List (Nat × (List A → Option (Bool × A))) := (83, s83) :: env35
theorem env36_ok : EnvOK Try.prog (look env36) := (env_cons s83_at env35_ok)
noncomputable def cfg36 : Cfg := mkCfg tab [] xts (look env36)
theorem cfg36_ok : CfgOK Try.prog cfg36 := cfg_ok tab_eq (no_fts _) xts_ok env36_ok mixed
end Go.Fw.W1

/-
  A ring's law: tables.
-/
namespace Go.Fw.W1
open Go.Proofs
theorem auto29 (n k0 cur : Nat) (x y z : Nat → Nat) (cl : Bool) : autoS cfg36 (fun _ => none) false Try.f29 [.agg [.ro 3 n (.vecs .f32 x y z), .bool cl, .flt .f32 cur], .int .i64 (.ofNat k0)] =
    some (n.ble 1048577 && k0.ble 1000000000 && allUpTo (heldV x y z k0) n && true, A.int IntKind.i64 (Int.ofNat (k0 + 3 * n))) := by kernel_rfl
noncomputable def s29 : List A → Option (Bool × A)
  | [.agg [.ro 3 n (.vecs .f32 x y z), .bool cl, .flt .f32 cur], .int .i64 (.ofNat k0)] => some (Nat.ble n 1048577 && Nat.ble k0 1000000000 && allUpTo (heldV x y z k0) n, .int .i64 (Int.ofNat (k0 + 3 * n)))
  | _ => none
theorem s29_at : EnvAt Try.prog 29 s29 := of_autoS cfg36_ok (lp_none _) Try.func29 (by kernel_rfl) (by kernel_rfl) fun ds cc rr h hc => by
  unfold s29 at h
  split at h
  · rename_i n x y z cl cur k0
    simp only [Option.some.injEq, Prod.mk.injEq] at h
    obtain ⟨rfl, rfl⟩ := h
    refine auto_fit (auto29 n k0 cur x y z cl) ?_ ?_
    · rfl
    · simp only [Bool.and_eq_true] at hc
      have e : allUpTo (fun k => heldV x y z k0 k) n = true := hc.2
      rw [hc.1.1, hc.1.2]
      show (true && true && allUpTo (fun k => heldV x y z k0 k) n && true) = true
      rw [e]; rfl
  · cases h

noncomputable def env37 : List (Nat × (List A → Option (Bool × A))) := (29, s29) :: env36
theorem env37_ok : EnvOK Try.prog (look env37) := (env_cons s29_at env36_ok)
noncomputable def cfg37 : Cfg := mkCfg tab [] xts (look env37)
theorem cfg37_ok : CfgOK Try.prog cfg37 := cfg_ok tab_eq (no_fts _) xts_ok env37_ok mixed
noncomputable def envRingT : List (Nat × (List A → Option (Bool × A))) := (30, s30T) :: (31, s31T) :: env37
noncomputable def envRingF : List (Nat × (List A → Option (Bool × A))) := (30, s30F) :: (31, s31F) :: env37
theorem envRingT_ok : EnvOK Try.prog (look envRingT) := env_cons s30T_at (env_cons s31T_at env37_ok)
theorem envRingF_ok : EnvOK Try.prog (look envRingF) := env_cons s30F_at (env_cons s31F_at env37_ok)
noncomputable def ftsV : List (Nat × Func) := [(28, Try.f28), (82, Try.f82)]
noncomputable def cfgStop (env : List (Nat × (List A → Option (Bool × A)))) : Cfg := mkCfgX tab ftsV xts (look env) [(82, fun σ => .loop .skip σ fun _ _ => .fail)]
end Go.Fw.W1

/-
  Vectors marked.
-/
namespace Go.Fw.W1
open Go.Proofs
def IV (m k0 k : Nat) : List A := [.sl 256 m, .int .i64 (Int.ofNat (k0 + 3 * k)), .int .i64 (Int.ofNat 0), .int .i64 (Int.ofNat k)]
def uptoV (k k0 c : Nat) (x : Nat → Nat) (j : Nat) : Nat := match decide (j < k) with | true => mk3 k0 j c | false => x j
noncomputable def JV (e m k0 : Nat) (x y z : Nat → Nat) (k : Nat) : O := .row e 3 m (.vecs .f32 (uptoV k k0 0 x) (uptoV k k0 1 y) (uptoV k k0 2 z))
theorem roundV (m k0 k e lo nx : Nat) (x y z : Nat → Nat) (M : List (Nat × O)) (L : XK → List A → List (Nat × O) → Prop) :
    ((exec cfg37 (fun _ => true) (fun _ => none) 0 1000 (loopOf Try.f82 0) (stM Try.f82.ntmps lo nx [0, 1, 4, 5] (IV m k0 k) 256 (.row e 3 m (.vecs .f32 x y z)) M)).rm [0, 1, 4, 5]).Ok L =
    bif decide (Int.ofNat k < Int.ofNat m) then 
       bif decide (Int.ofNat k < Int.ofNat m) then 
         bif decide (Int.ofNat k < Int.ofNat m) then 
           bif decide (Int.ofNat k < Int.ofNat m) then 
             L (XK.normal) ([A.sl 256 m, A.int IntKind.i64 (IntKind.i64.wrap (IntKind.i64.wrap (IntKind.i64.wrap (Int.ofNat (k0 + 3 * k) + Int.ofNat 1) + Int.ofNat 1) + Int.ofNat 1)), A.int IntKind.i64 (Int.ofNat 0), A.int IntKind.i64 (IntKind.i64.wrap (Int.ofNat k + Int.ofNat 1))]) ((256,     O.row e 3 m       (Row.vecs FloatKind.f32         (fun j =>           (match decide (j = (Int.ofNat k).toNat) with | true => (match decide ((Int.ofNat k).toNat = (Int.ofNat k).toNat) with | true => (match decide ((Int.ofNat k).toNat = (Int.ofNat k).toNat) with | true => fofInt FloatKind.f32 (Int.ofNat (k0 + 3 * k)) | false => x k) | false => (match decide ((Int.ofNat k).toNat = (Int.ofNat k).toNat) with | true => fofInt FloatKind.f32 (Int.ofNat (k0 + 3 * k)) | false => x k)) | false => (match decide (j = (Int.ofNat k).toNat) with | true => (match decide ((Int.ofNat k).toNat = (Int.ofNat k).toNat) with | true => fofInt FloatKind.f32 (Int.ofNat (k0 + 3 * k)) | false => x k) | false => (match decide (j = (Int.ofNat k).toNat) with | true => fofInt FloatKind.f32 (Int.ofNat (k0 + 3 * k)) | false => x j))))         (fun j =>           (match decide (j = (Int.ofNat k).toNat) with | true => (match decide ((Int.ofNat k).toNat = (Int.ofNat k).toNat) with | true => fofInt FloatKind.f32 (IntKind.i64.wrap (Int.ofNat (k0 + 3 * k) + Int.ofNat 1)) | false => (match decide ((Int.ofNat k).toNat = (Int.ofNat k).toNat) with | true => y k | false => y k)) | false => (match decide (j = (Int.ofNat k).toNat) with | true => fofInt FloatKind.f32 (IntKind.i64.wrap (Int.ofNat (k0 + 3 * k) + Int.ofNat 1)) | false => (match decide (j = (Int.ofNat k).toNat) with | true => y k | false => y j))))         fun j =>         (match decide (j = (Int.ofNat k).toNat) with | true => fofInt FloatKind.f32 (IntKind.i64.wrap (IntKind.i64.wrap (Int.ofNat (k0 + 3 * k) + Int.ofNat 1) + Int.ofNat 1)) | false => (match decide (j = (Int.ofNat k).toNat) with | true => (match decide ((Int.ofNat k).toNat = (Int.ofNat k).toNat) with | true => z k | false => z k) | false => (match decide (j = (Int.ofNat k).toNat) with | true => z k | false => z j))))) ::   (256,       O.row e 3 m         (Row.vecs FloatKind.f32           (fun j =>             (match decide (j = (Int.ofNat k).toNat) with | true => (match decide ((Int.ofNat k).toNat = (Int.ofNat k).toNat) with | true => fofInt FloatKind.f32 (Int.ofNat (k0 + 3 * k)) | false => x k) | false => (match decide (j = (Int.ofNat k).toNat) with | true => fofInt FloatKind.f32 (Int.ofNat (k0 + 3 * k)) | false => x j)))           (fun j =>             (match decide (j = (Int.ofNat k).toNat) with | true => fofInt FloatKind.f32 (IntKind.i64.wrap (Int.ofNat (k0 + 3 * k) + Int.ofNat 1)) | false => (match decide (j = (Int.ofNat k).toNat) with | true => y k | false => y j)))           fun j =>           (match decide (j = (Int.ofNat k).toNat) with | true => (match decide ((Int.ofNat k).toNat = (Int.ofNat k).toNat) with | true => z k | false => z k) | false => (match decide (j = (Int.ofNat k).toNat) with | true => z k | false => z j)))) ::     (256,         O.row e 3 m           (Row.vecs FloatKind.f32             (fun j =>               (match decide (j = (Int.ofNat k).toNat) with | true => fofInt FloatKind.f32 (Int.ofNat (k0 + 3 * k)) | false => x j))             (fun j =>               (match decide (j = (Int.ofNat k).toNat) with | true => y k | false => y j))             fun j =>             (match decide (j = (Int.ofNat k).toNat) with | true => z k | false => z j))) ::       (256, O.row e 3 m (Row.vecs FloatKind.f32 x y z)) :: M) 
           else 
             False 
         else 
           False 
       else 
         False 
     else 
       L (XK.exit 0) ([A.sl 256 m, A.int IntKind.i64 (Int.ofNat (k0 + 3 * k)), A.int IntKind.i64 (Int.ofNat 0), A.int IntKind.i64 (Int.ofNat k)]) ((256, O.row e 3 m (Row.vecs FloatKind.f32 x y z)) :: M) := by kernel_rfl
theorem upto_step {k k0 c v : Nat} {x : Nat → Nat} (hv : v = mk3 k0 k c) (p : Nat) (f : Nat → Nat) (h1 : p = k → f p = v) (h2 : p ≠ k → f p = uptoV k k0 c x p) : f p = uptoV (k + 1) k0 c x p := by
  by_cases hp : p = k
  · rw [h1 hp, hv, hp]; unfold uptoV; rw [decide_eq_true (by omega)]
  · rw [h2 hp]; unfold uptoV
    have : (p < k) = (p < k + 1) := by simp; omega
    simp only [this]
noncomputable def FV : List A → O → Option (Bool × List A × O)
  | [.sl j m, .int .i64 (.ofNat k0), .int .i64 0, .int .i64 0], .row e 3 m2 (.vecs .f32 _ _ _) => some (Nat.beq j 256 && Nat.beq m2 m && Nat.ble m 1048577 && Nat.ble k0 1000000000, IV m k0 m, .row e 3 m (.vecs .f32 (fun j => mk3 k0 j 0) (fun j => mk3 k0 j 1) (fun j => mk3 k0 j 2)))
  | _, _ => none
theorem loopV : CodeOK Try.prog (fun _ σ => sumM Try.f82.ntmps [0, 1, 4, 5] 256 FV σ) (.block 0 (.loop (loopOf Try.f82 0))) :=
  sumM_ok (own := fun _ => true) (lp := fun _ => none) (un := 0) (fuel := 1000) cfg37_ok (lp_none _) (by
  intro az o az' o' hF
  unfold FV at hF
  split at hF
  · rename_i j m k0 e m2 x y z
    simp only [Option.some.injEq, Prod.mk.injEq, Bool.and_eq_true, Nat.beq_eq, Nat.ble_eq] at hF
    obtain ⟨⟨⟨⟨hj, hm2⟩, hm⟩, hk0⟩, rfl, rfl⟩ := hF
    subst hj hm2
    refine ⟨IV m2 k0, JV e m2 k0 x y z, m2, rfl, ⟨e, _, rfl, .inr rfl, fun i _ => rfl⟩, fun _ => rfl, rfl, ALe.self _, ⟨e, _, rfl, .inr rfl, fun i hi => ?_⟩, fun k hk lo nx M => ?_⟩
    · simp [Row.at, uptoV, hi]
    · unfold JV
      rw [roundV]
      by_cases hkm : k < m2
      · rw [lt_dec hkm]
        refine ⟨hkm, ?_, fun j' hj' => ?_, ?_⟩
        · rw [wrap_succ (by omega), wrap_succ (by omega), wrap_succ (by omega), wrap_succ (by omega)]
          show [A.sl 256 m2, .int .i64 (Int.ofNat (k0 + 3 * k + 1 + 1 + 1)), .int .i64 (Int.ofNat 0), .int .i64 (Int.ofNat (k + 1))] = _
          rw [show k0 + 3 * k + 1 + 1 + 1 = k0 + 3 * (k + 1) by omega]; rfl
        · rw [look_cons_other _ _ hj', look_cons_other _ _ hj', look_cons_other _ _ hj', look_cons_other _ _ hj']
        · rw [look_cons_same]
          refine ⟨e, _, rfl, .inr rfl, fun i hi => vec_at ?_ ?_ ?_⟩
          · refine upto_step (k := k) (v := fofInt .f32 (Int.ofNat (k0 + 3 * k))) rfl i (fun j => _) (fun h => by subst h; simp) (fun h => by simp [h])
          · refine upto_step (k := k) (v := fofInt .f32 (Int.ofNat (k0 + 3 * k + 1))) rfl i (fun j => _) (fun h => by subst h; rw [wrap_succ (by omega)]; simp) (fun h => by simp [h])
          · refine upto_step (k := k) (v := fofInt .f32 (Int.ofNat (k0 + 3 * k + 1 + 1))) rfl i (fun j => _) (fun h => by subst h; rw [wrap_succ (by omega), wrap_succ (by omega)]; simp) (fun h => by simp [h])
      · rw [ge_dec (show m2 ≤ k by omega)]
        obtain rfl : k = m2 := by omega
        refine ⟨rfl, rfl, rfl, fun j' hj' => ?_, ?_⟩
        · rw [look_cons_other _ _ hj']
        · rw [look_cons_same]
          exact ⟨e, _, rfl, .inr rfl, fun _ _ => rfl⟩
  · cases hF)
end Go.Fw.W1

/-
  A ring's law.
-/
namespace Go.Fw.W1
open Go.Proofs
noncomputable def lpV : List (Nat × (St → T)) := [(0, sumD 0 [(256, sumM Try.f82.ntmps [0, 1, 4, 5] 256 FV)])]
theorem lpV_ok : LpOK Try.prog (look lpV) (bodyOf Try.f82) := lp_loops (by kernel_rfl) (by kernel_rfl) fun p hp => by
  rw [List.mem_singleton.1 hp]
  exact sumD_ok fun p hp => by rw [List.mem_singleton.1 hp]; exact loopV
noncomputable def markV (σ : St) : T := match σ.get 0 with
  | .emp => exec cfgN (fun _ => true) (fun _ => none) 1 1000 (bodyOf Try.f82) σ
  | _ => exec cfgN (fun _ => true) (look lpV) 0 1000 (bodyOf Try.f82) σ
theorem markV_ok : CodeOK Try.prog (fun _ σ => markV σ) (bodyOf Try.f82) := by
  intro σ L hok
  replace hok : (markV σ).Ok Try.prog L := hok
  unfold markV at hok
  split at hok
  · exact codeOK_exec cfgN_ok (lp_none _) σ L hok
  · exact codeOK_exec cfgN_ok lpV_ok σ L hok
theorem ftsV_ok (f : Nat) (fn : Func) (h : (f, fn) ∈ ftsV) : Try.prog.funcs[f]? = some fn ∧ (fn.name == "runtime.NumGoroutine") = false := by
  simp only [ftsV, List.mem_cons, Prod.mk.injEq, List.not_mem_nil, or_false] at h
  rcases h with ⟨rfl, rfl⟩ | ⟨rfl, rfl⟩
  · exact ⟨Try.func28, by kernel_rfl⟩
  · exact ⟨Try.func82, by kernel_rfl⟩
noncomputable def fxV : List (Nat × (St → T)) := [(82, markV)]
theorem fxV_ok (g : Nat) (s : St → T) (fn : Func) (body : Code) (h1 : (g, s) ∈ fxV) (h2 : (g, fn) ∈ ftsV) (h3 : fn.body = some body) : CodeOK Try.prog (fun _ σ => s σ) body := by
  simp only [fxV, List.mem_singleton, Prod.mk.injEq] at h1
  obtain ⟨rfl, rfl⟩ := h1
  simp only [ftsV, List.mem_cons, Prod.mk.injEq, List.not_mem_nil, or_false] at h2
  rcases h2 with ⟨h2, _⟩ | ⟨_, rfl⟩
  · omega
  · have e : bodyOf Try.f82 = body := by unfold bodyOf; rw [h3]
    rw [← e]
    exact markV_ok
noncomputable def cfgV (env : List (Nat × (List A → Option (Bool × A)))) : Cfg := mkCfgX tab ftsV xts (look env) fxV
theorem cfgV_ok {env : List (Nat × (List A → Option (Bool × A)))} (h : EnvOK Try.prog (look env)) : CfgOK Try.prog (cfgV env) := cfgX_ok tab_eq ftsV_ok xts_ok h mixed fxV_ok
theorem ringT (n : Int) (r h c : Nat) : autoLp (cfgV envRingT) (fun _ => none) Try.f6 [.int .i64 n, .flt .f32 r, .flt .f32 h, .flt .f32 c] =
    some (ringOk n r h c && (ringOk n r h c && (n.toNat.beq n.toNat && n.toNat.ble 1048576 && allUpTo (sameVAt (ringX n r) (ringY n r) (fun x => h) (ringX n r) (ringY n r) fun x => h) n.toNat && true && sameF (fcvt FloatKind.f32 FloatKind.f64 c) (fcvt FloatKind.f32 FloatKind.f64 c) && (n.toNat.beq n.toNat && n.toNat.ble 1048577 && true && (n.toNat.ble 1048577 && true && allUpTo (heldV (fun j => mk3 1 j 0) (fun j => mk3 1 j 1) (fun j => mk3 1 j 2) 1) n.toNat && bif Int.ofNat (1 + 3 * n.toNat) != Int.ofNat (1 + 3 * n.toNat) then true else ringOk n r h c && (n.toNat.beq n.toNat && n.toNat.ble 1048576 && allUpTo (sameVAt (ringX n r) (ringY n r) (fun x => h) (ringX n r) (ringY n r) fun x => h) n.toNat && true && sameF (fcvt FloatKind.f32 FloatKind.f64 c) (fcvt FloatKind.f32 FloatKind.f64 c) && (n.toNat.ble 1048577 && true && allUpTo (heldV (fun j => mk3 1 j 0) (fun j => mk3 1 j 1) (fun j => mk3 1 j 2) 1) n.toNat && bif Int.ofNat (1 + 3 * n.toNat) != Int.ofNat (1 + 3 * n.toNat) then true else true)))))), A.bool (bif Int.ofNat (1 + 3 * n.toNat) != Int.ofNat (1 + 3 * n.toNat) then false else bif Int.ofNat (1 + 3 * n.toNat) != Int.ofNat (1 + 3 * n.toNat) then false else true)) := by kernel_rfl
theorem ringF (n : Int) (r h c : Nat) : autoLp (cfgV envRingF) (fun _ => none) Try.f6 [.int .i64 n, .flt .f32 r, .flt .f32 h, .flt .f32 c] =
    none := by kernel_rfl
end Go.Fw.W1

/-
  Wires without points, compared and held.
-/
namespace Go.Fw.W1
open Go.Proofs
theorem auto83e (k : Int) : autoN cfg35 1 Try.f83 [.emp, .int .i64 k] = some (true, .int .i64 k) := by kernel_rfl
noncomputable def s83e : List A → Option (Bool × A)
  | [.emp, .int .i64 k] => some (true, .int .i64 k)
  | _ => none
theorem s83e_at : EnvAt Try.prog 83 s83e := by
  refine ⟨s83_at.1, fun ds c r h hc => ?_⟩
  unfold s83e at h
  split at h
  · simp only [Option.some.injEq, Prod.mk.injEq] at h
    obtain ⟨rfl, rfl⟩ := h
    exact (autoN_at cfg35_ok (un := 1) Try.func83 (by kernel_rfl) (by kernel_rfl)).2 _ _ _ (auto83e _) rfl
  · cases h
theorem auto22e : autoN cfg35 1 Try.f22 [.emp, .emp] = some (true, .bool true) := by kernel_rfl
noncomputable def s22e : List A → Option (Bool × A)
  | [.emp, .emp] => some (true, .bool true)
  | _ => none
theorem s22e_at : EnvAt Try.prog 22 s22e := by
  refine ⟨⟨_, Try.func22, by kernel_rfl, by kernel_rfl⟩, fun ds c r h hc => ?_⟩
  unfold s22e at h
  split at h
  · simp only [Option.some.injEq, Prod.mk.injEq] at h
    obtain ⟨rfl, rfl⟩ := h
    exact (autoN_at cfg35_ok (un := 1) Try.func22 (by kernel_rfl) (by kernel_rfl)).2 _ _ _ auto22e rfl
  · cases h
noncomputable def env38 : List (Nat × (List A → Option (Bool × A))) := (83, s83e) :: (22, s22e) :: env35
theorem env38_ok : EnvOK Try.prog (look env38) := env_cons s83e_at (env_cons s22e_at env35_ok)
noncomputable def cfg38 : Cfg := mkCfg tab [] xts (look env38)
theorem cfg38_ok : CfgOK Try.prog cfg38 := cfg_ok tab_eq (no_fts _) xts_ok env38_ok mixed
end Go.Fw.W1

/-
  A ring's law where there is no ring.
-/
namespace Go.Fw.W1
open Go.Proofs
noncomputable def envNil : List (Nat × (List A → Option (Bool × A))) := (27, auto cfg38 Try.f27) :: (29, auto cfg38 Try.f29) :: env37
theorem envNil_ok : EnvOK Try.prog (look envNil) := env_cons (auto_at cfg38_ok Try.func27 (by kernel_rfl) (by kernel_rfl)) (env_cons (auto_at cfg38_ok Try.func29 (by kernel_rfl) (by kernel_rfl)) env37_ok)
noncomputable def envRingN : List (Nat × (List A → Option (Bool × A))) := (30, s30F) :: (31, s31F) :: envNil
theorem envRingN_ok : EnvOK Try.prog (look envRingN) := env_cons s30F_at (env_cons s31F_at envNil_ok)
theorem ringN (n : Int) (r h c : Nat) : autoLp (cfgV envRingN) (fun _ => none) Try.f6 [.int .i64 n, .flt .f32 r, .flt .f32 h, .flt .f32 c] =
    some (!ringOk n r h c && (!ringOk n r h c && ((bif !sameF (fcvt FloatKind.f32 FloatKind.f64 0) (fcvt FloatKind.f32 FloatKind.f64 0) then true else true) && bif bif !bif !sameF (fcvt FloatKind.f32 FloatKind.f64 0) (fcvt FloatKind.f32 FloatKind.f64 0) then false else true then true else false then true else bif decide ((bif decide (1 < 0) then -1 else 1) < 0) then true else bif Int.ofNat 1 != Int.ofNat 1 then true else !ringOk n r h c && ((bif !sameF (fcvt FloatKind.f32 FloatKind.f64 0) (fcvt FloatKind.f32 FloatKind.f64 0) then true else true) && bif bif !bif !sameF (fcvt FloatKind.f32 FloatKind.f64 0) (fcvt FloatKind.f32 FloatKind.f64 0) then false else true then true else false then true else bif decide ((bif decide (1 < 0) then -1 else 1) < 0) then true else bif Int.ofNat 1 != Int.ofNat 1 then true else true))), A.bool (bif bif !bif !sameF (fcvt FloatKind.f32 FloatKind.f64 0) (fcvt FloatKind.f32 FloatKind.f64 0) then false else true then true else false then false else bif decide ((bif decide (1 < 0) then -1 else 1) < 0) then false else bif Int.ofNat 1 != Int.ofNat 1 then false else bif bif !bif !sameF (fcvt FloatKind.f32 FloatKind.f64 0) (fcvt FloatKind.f32 FloatKind.f64 0) then false else true then true else false then false else bif decide ((bif decide (1 < 0) then -1 else 1) < 0) then false else bif Int.ofNat 1 != Int.ofNat 1 then false else true)) := by kernel_rfl
end Go.Fw.W1

/-
  A ring's law: its answer.
-/
namespace Go.Fw.W1
open Go.Proofs
theorem forder_int (n : Int) : forder .f32 (fofInt .f32 n) (fofInt .f32 n) = some .eq := forder_self (notNaN_ofInt _ _)
theorem heldV_mk (k0 k : Nat) : heldV (fun j => mk3 k0 j 0) (fun j => mk3 k0 j 1) (fun j => mk3 k0 j 2) k0 k = true := by
  unfold heldV mk3
  rw [forder_int, forder_int, forder_int]; rfl
theorem law6' (n : Int) (r h c : Nat) : PureCall Try.prog 6 [.int .i64 n, .flt .f32 r, .flt .f32 h, .flt .f32 c] (.bool true) := by
  have keyT := (auto_at (cfgV_ok envRingT_ok) Try.func6 (by kernel_rfl) (by kernel_rfl)).2 _ _ _ (ringT n r h c)
  have keyF := (auto_at (cfgV_ok envRingN_ok) Try.func6 (by kernel_rfl) (by kernel_rfl)).2 _ _ _ (ringN n r h c)
  cases hr : ringOk n r h c
  · rw [hr] at keyF
    simp only [sameF_self, bne_self_eq_false, Bool.cond_self, Bool.not_true, Bool.not_false, cond_false, cond_true, Bool.and_true, Bool.true_and] at keyF
    exact keyF (by decide)
  · obtain ⟨_, _, _, h4, h5⟩ := ring_ok hr
    have e1 : ∀ m, allUpTo (heldV (fun j => mk3 1 j 0) (fun j => mk3 1 j 1) (fun j => mk3 1 j 2) 1) m = true := allUpTo_all (heldV_mk 1)
    have e2 : ∀ m, allUpTo (sameVAt (ringX n r) (ringY n r) (fun _ => h) (ringX n r) (ringY n r) (fun _ => h)) m = true := allUpTo_all (sameVAt_self _ _ _)
    rw [hr, ble_of (show n.toNat ≤ 1048576 by omega), ble_of (show n.toNat ≤ 1048577 by omega)] at keyT
    simp only [e1, e2, sameF_self, bne_self_eq_false, Nat.beq_refl, Bool.cond_self, Bool.not_true, cond_false, cond_true, Bool.and_true, Bool.true_and] at keyT
    exact keyT trivial
theorem law6 {i : Int} {a b d : A} (_hi : IntA i) (ha : FltA a) (hb : FltA b) (hd : FltA d) : PureCall Try.prog 6 [.int .i64 i, a, b, d] (.bool true) := by
  obtain ⟨r, _, rfl⟩ := ha
  obtain ⟨h, _, rfl⟩ := hb
  obtain ⟨c, _, rfl⟩ := hd
  exact law6' i r h c
end Go.Fw.W1

/-
  Helices as wires: contracts.
-/
namespace Go.Fw.W1
open Go.Proofs
theorem num_mul {k : FloatKind} {x y : Nat} (h : num k (fop .mul k x y) = true) : num k y = true := by
  cases hy : k.format.read y with
  | number s m i => exact num_iff.2 ⟨_, _, _, hy⟩
  | nan s t =>
    exfalso
    have e : fop .mul k x y = qnan k := by
      unfold fop
      have e : floatBits .mul k x y = ((k.format.read x).product (k.format.read y)).map k.format.write := rfl
      rw [e, hy, product_nan_right]; rfl
    rw [e] at h
    revert h
    cases k <;> decide +kernel
  | infinity s =>
    exfalso
    have e : ∃ g, fop .mul k x y = qnan k ∨ fop .mul k x y = k.format.word g k.format.infRung := by
      unfold fop
      have e : floatBits .mul k x y = ((k.format.read x).product (k.format.read y)).map k.format.write := rfl
      rw [e, hy]
      have hD : ∀ d : Ieee.Datum, d.product (.infinity s) = none ∨ ∃ g, d.product (.infinity s) = some (.infinity g) := fun d => by
        cases d with
        | nan a b => exact .inl rfl
        | infinity a => exact .inr ⟨_, rfl⟩
        | number a n j =>
          simp only [Ieee.Datum.product]
          split
          · exact .inl rfl
          · exact .inr ⟨_, rfl⟩
      rcases hD (k.format.read x) with h | ⟨g, h⟩
      · rw [h]; exact ⟨true, .inl rfl⟩
      · rw [h]; exact ⟨g, .inr rfl⟩
    obtain ⟨g, e | e⟩ := e
    · rw [e] at h; revert h; cases k <;> decide +kernel
    · rw [e] at h; revert h; cases k <;> cases g <;> decide +kernel
noncomputable def inN (n : Int) : Bool := bif decide (n ≥ 2) then decide (n ≤ 48) else false
noncomputable def inM (n : Int) : Bool := bif decide (n ≥ 3) then decide (n ≤ 48) else false
noncomputable def helixOk (n m : Int) (r s c : Nat) : Bool := inN n && inM m && above r && okW n.toNat c (ringX m r) (ringY m r) (helixZ s)
theorem inN_ok {n : Int} (h : inN n = true) : 2 ≤ n ∧ n ≤ 48 := by
  unfold inN at h
  by_cases h3 : n ≥ 2
  · rw [decide_eq_true h3] at h; exact ⟨h3, of_decide_eq_true h⟩
  · rw [decide_eq_false h3] at h; cases h
theorem helix_ok {n m : Int} {r s c : Nat} (hr : helixOk n m r s c = true) : inN n = true ∧ inM m = true ∧ above r = true ∧ okW n.toNat c (ringX m r) (ringY m r) (helixZ s) = true ∧ 2 ≤ n ∧ n ≤ 48 := by
  unfold helixOk at hr
  simp only [Bool.and_eq_true] at hr
  obtain ⟨⟨⟨h1, h2⟩, h3⟩, h4⟩ := hr
  exact ⟨h1, h2, h3, h4, inN_ok h1⟩
theorem okW_rise {n cur : Nat} {x y : Nat → Nat} {s : Nat} (hw : okW n cur x y (helixZ s) = true) : fin s = true := by
  unfold okW at hw
  simp only [Bool.and_eq_true, decide_eq_true_eq] at hw
  have := allUpTo_iff.1 hw.2 1 (by omega)
  unfold vfinAt vfin at this
  have hz : fin (helixZ s 1) = true := by
    revert this
    cases fin (x 1) <;> cases fin (y 1) <;> cases fin (helixZ s 1) <;> simp
  rw [fin_num] at hz ⊢
  exact num_mul hz
noncomputable def lp25T : List (Nat × (St → T)) := [(0, sumAt Try.f25.ntmps 336 [0, 1, 2, 3, 13, 12, 10, 11] [288, 240, 0] F25)]
theorem lp25T_ok : LpOK Try.prog (look lp25T) (bodyOf Try.f25) := lp_loops (by kernel_rfl) (by kernel_rfl) fun p hp => by
  simp only [lp25T, List.mem_cons, List.not_mem_nil, or_false] at hp
  rcases hp with rfl
  · exact loop25
theorem auto25T (n m : Int) (r s c : Nat) : autoS cfgG (look lp25T) false Try.f25 [.int .i64 n, .int .i64 m, .flt .f32 r, .flt .f32 s, .flt .f32 c] =
    some ((!bif bif !bif decide (n ≥ 2) then decide (n ≤ 48) else false then true else !bif decide (m ≥ 3) then decide (m ≤ 48) else false then true else !above r) && (decide (n ≤ 1000) && (n.toNat.ble 4611686018427387000 && (!!okW n.toNat c (ringX m r) (ringY m r) (helixZ s) && true))), A.tup [A.agg [A.ro 3 n.toNat (Row.vecs FloatKind.f32 (fun i => ringX m r i) (fun i => ringY m r i) fun i => helixZ s i), A.bool false, A.flt FloatKind.f32 c], A.bool true]) := by kernel_rfl
noncomputable def s25T : List A → Option (Bool × A)
  | [.int .i64 n, .int .i64 m, .flt .f32 r, .flt .f32 s, .flt .f32 c] => some (helixOk n m r s c, .tup [.agg [.ro 3 n.toNat (.vecs .f32 (ringX m r) (ringY m r) (helixZ s)), .bool false, .flt .f32 c], .bool true])
  | _ => none
theorem s25T_at : EnvAt Try.prog 25 s25T := of_autoS cfgG_ok lp25T_ok Try.func25 (by kernel_rfl) (by kernel_rfl) fun ds cc rr h hc => by
  unfold s25T at h
  split at h
  · rename_i n m r s c
    simp only [Option.some.injEq, Prod.mk.injEq] at h
    obtain ⟨rfl, rfl⟩ := h
    refine auto_fit (auto25T n m r s c) ?_ ?_
    · rfl
    · obtain ⟨h1, h2, h3, h4, h5, h6⟩ := helix_ok hc
      have h1' : (bif decide (n ≥ 2) then decide (n ≤ 48) else false) = true := h1
      have h2' : (bif decide (m ≥ 3) then decide (m ≤ 48) else false) = true := h2
      rw [h1', h2', h3, h4, decide_eq_true (show n ≤ 1000 by omega), ble_of (show n.toNat ≤ 4611686018427387000 by omega)]; rfl
  · cases h

noncomputable def lp25F : List (Nat × (St → T)) := [(0, sumAt Try.f25.ntmps 336 [0, 1, 2, 3, 13, 12, 10, 11] [288, 240, 0] F25)]
theorem lp25F_ok : LpOK Try.prog (look lp25F) (bodyOf Try.f25) := lp_loops (by kernel_rfl) (by kernel_rfl) fun p hp => by
  simp only [lp25F, List.mem_cons, List.not_mem_nil, or_false] at hp
  rcases hp with rfl
  · exact loop25
theorem auto25F (n m : Int) (r s c : Nat) : autoS cfgG (look lp25F) true Try.f25 [.int .i64 n, .int .i64 m, .flt .f32 r, .flt .f32 s, .flt .f32 c] =
    some (bif bif bif !bif decide (n ≥ 2) then decide (n ≤ 48) else false then true else !bif decide (m ≥ 3) then decide (m ≤ 48) else false then true else !above r then true else decide (n ≤ 1000) && (n.toNat.ble 4611686018427387000 && (!okW n.toNat c (ringX m r) (ringY m r) (helixZ s) && true)), A.tup [A.agg [A.emp, A.bool (bif bif bif !bif decide (n ≥ 2) then decide (n ≤ 48) else false then true else !bif decide (m ≥ 3) then decide (m ≤ 48) else false then true else !above r then false else false), A.flt FloatKind.f32 (bif bif bif !bif decide (n ≥ 2) then decide (n ≤ 48) else false then true else !bif decide (m ≥ 3) then decide (m ≤ 48) else false then true else !above r then 0 else 0)], A.bool (bif bif bif !bif decide (n ≥ 2) then decide (n ≤ 48) else false then true else !bif decide (m ≥ 3) then decide (m ≤ 48) else false then true else !above r then false else false)]) := by kernel_rfl
noncomputable def s25F : List A → Option (Bool × A)
  | [.int .i64 n, .int .i64 m, .flt .f32 r, .flt .f32 s, .flt .f32 c] => some (!helixOk n m r s c, .tup [.agg [.emp, .bool false, .flt .f32 0], .bool false])
  | _ => none
theorem s25F_at : EnvAt Try.prog 25 s25F := of_autoS cfgG_ok lp25F_ok Try.func25 (by kernel_rfl) (by kernel_rfl) fun ds cc rr h hc => by
  unfold s25F at h
  split at h
  · rename_i n m r s c
    simp only [Option.some.injEq, Prod.mk.injEq] at h
    obtain ⟨rfl, rfl⟩ := h
    refine auto_fit (auto25F n m r s c) ?_ ?_
    · simp only [Bool.cond_self]
    · unfold helixOk at hc
      show (bif (bif bif !inN n then true else !inM m then true else !above r) then true else decide (n ≤ 1000) && (n.toNat.ble 4611686018427387000 && ((!okW n.toNat c (ringX m r) (ringY m r) (helixZ s)) && true))) = true
      cases hA : inN n
      · rfl
      · cases hD : inM m
        · rfl
        · cases hB : above r
          · rfl
          · rw [hA, hB, hD] at hc
            have hC : okW n.toNat c (ringX m r) (ringY m r) (helixZ s) = false := by simpa using hc
            have h5 := (inN_ok hA).2
            rw [hC, decide_eq_true (show n ≤ 1000 by omega), ble_of (show n.toNat ≤ 4611686018427387000 by omega)]; rfl
  · cases h

noncomputable def lp26T : List (Nat × (St → T)) := [(0, N26)]
theorem lp26T_ok : LpOK Try.prog (look lp26T) (bodyOf Try.f26) := lp_loops (by kernel_rfl) (by kernel_rfl) fun p hp => by
  simp only [lp26T, List.mem_cons, List.not_mem_nil, or_false] at hp
  rcases hp with rfl
  · exact loopN26
theorem auto26T (n m : Int) (r s c : Nat) : autoS cfgGD (look lp26T) false Try.f26 [.int .i64 n, .int .i64 m, .flt .f32 r, .flt .f32 s, .flt .f32 c] =
    some ((!bif bif bif !bif decide (n ≥ 2) then decide (n ≤ 48) else false then true else !inI m (Int.ofNat 3) (Int.ofNat 48) then true else !above r then true else !fin s) && (decide (n = n) && decide (n ≤ 1000) && (n.toNat.ble 4611686018427387000 && (!!okW n.toNat c (ringX m r) (ringY m r) (helixZ s) && true))), A.tup [A.agg [A.ro 3 n.toNat (Row.vecs FloatKind.f32 (fun i => ringX m r i) (fun i => ringY m r i) fun i => helixZ s i), A.bool false, A.flt FloatKind.f32 c], A.bool true]) := by kernel_rfl
noncomputable def s26T : List A → Option (Bool × A)
  | [.int .i64 n, .int .i64 m, .flt .f32 r, .flt .f32 s, .flt .f32 c] => some (helixOk n m r s c, .tup [.agg [.ro 3 n.toNat (.vecs .f32 (ringX m r) (ringY m r) (helixZ s)), .bool false, .flt .f32 c], .bool true])
  | _ => none
theorem s26T_at : EnvAt Try.prog 26 s26T := of_autoS cfgGD_ok lp26T_ok Try.func26 (by kernel_rfl) (by kernel_rfl) fun ds cc rr h hc => by
  unfold s26T at h
  split at h
  · rename_i n m r s c
    simp only [Option.some.injEq, Prod.mk.injEq] at h
    obtain ⟨rfl, rfl⟩ := h
    refine auto_fit (auto26T n m r s c) ?_ ?_
    · rfl
    · obtain ⟨h1, h2, h3, h4, h5, h6⟩ := helix_ok hc
      have h1' : (bif decide (n ≥ 2) then decide (n ≤ 48) else false) = true := h1
      have h2' : inI m (Int.ofNat 3) (Int.ofNat 48) = true := h2
      rw [h1', h2', h3, h4, okW_rise h4, decide_eq_true (show n ≤ 1000 by omega), decide_eq_true rfl, ble_of (show n.toNat ≤ 4611686018427387000 by omega)]; rfl
  · cases h

noncomputable def lp26N : List (Nat × (St → T)) := [(0, N26)]
theorem lp26N_ok : LpOK Try.prog (look lp26N) (bodyOf Try.f26) := lp_loops (by kernel_rfl) (by kernel_rfl) fun p hp => by
  simp only [lp26N, List.mem_cons, List.not_mem_nil, or_false] at hp
  rcases hp with rfl
  · exact loopN26
theorem auto26N (n m : Int) (r s c : Nat) : autoS cfgGD (look lp26N) true Try.f26 [.int .i64 n, .int .i64 m, .flt .f32 r, .flt .f32 s, .flt .f32 c] =
    some (bif bif bif bif !bif decide (n ≥ 2) then decide (n ≤ 48) else false then true else !inI m (Int.ofNat 3) (Int.ofNat 48) then true else !above r then true else !fin s then true else decide (n = n) && decide (n ≤ 1000) && (n.toNat.ble 4611686018427387000 && (!okW n.toNat c (ringX m r) (ringY m r) (helixZ s) && true)), A.tup [A.agg [A.nils, A.bool (bif bif bif bif !bif decide (n ≥ 2) then decide (n ≤ 48) else false then true else !inI m (Int.ofNat 3) (Int.ofNat 48) then true else !above r then true else !fin s then false else false), A.flt FloatKind.f32 (bif bif bif bif !bif decide (n ≥ 2) then decide (n ≤ 48) else false then true else !inI m (Int.ofNat 3) (Int.ofNat 48) then true else !above r then true else !fin s then 0 else 0)], A.bool (bif bif bif bif !bif decide (n ≥ 2) then decide (n ≤ 48) else false then true else !inI m (Int.ofNat 3) (Int.ofNat 48) then true else !above r then true else !fin s then false else false)]) := by kernel_rfl
noncomputable def s26N : List A → Option (Bool × A)
  | [.int .i64 n, .int .i64 m, .flt .f32 r, .flt .f32 s, .flt .f32 c] => some (!helixOk n m r s c, .tup [.agg [.nils, .bool false, .flt .f32 0], .bool false])
  | _ => none
theorem s26N_at : EnvAt Try.prog 26 s26N := of_autoS cfgGD_ok lp26N_ok Try.func26 (by kernel_rfl) (by kernel_rfl) fun ds cc rr h hc => by
  unfold s26N at h
  split at h
  · rename_i n m r s c
    simp only [Option.some.injEq, Prod.mk.injEq] at h
    obtain ⟨rfl, rfl⟩ := h
    refine auto_fit (auto26N n m r s c) ?_ ?_
    · simp only [Bool.cond_self]
    · unfold helixOk at hc
      show (bif (bif bif bif !inN n then true else !inM m then true else !above r then true else !fin s) then true else decide (n = n) && decide (n ≤ 1000) && (n.toNat.ble 4611686018427387000 && ((!okW n.toNat c (ringX m r) (ringY m r) (helixZ s)) && true))) = true
      cases hA : inN n
      · rfl
      · cases hD : inM m
        · rfl
        · cases hB : above r
          · rfl
          · rw [hA, hB, hD] at hc
            have hC : okW n.toNat c (ringX m r) (ringY m r) (helixZ s) = false := by simpa using hc
            have h5 := (inN_ok hA).2
            rw [hC, decide_eq_true (show n ≤ 1000 by omega), decide_eq_true rfl, ble_of (show n.toNat ≤ 4611686018427387000 by omega)]
            cases fin s <;> rfl
  · cases h

noncomputable def s26F : List A → Option (Bool × A)
  | [.int .i64 n, .int .i64 m, .flt .f32 r, .flt .f32 s, .flt .f32 c] => some (!helixOk n m r s c, .tup [.agg [.emp, .bool false, .flt .f32 0], .bool false])
  | _ => none
theorem s26F_at : EnvAt Try.prog 26 s26F := by
  refine ⟨s26N_at.1, fun ds c r h hc => ?_⟩
  unfold s26F at h
  split at h
  · rename_i n m r s cc
    simp only [Option.some.injEq, Prod.mk.injEq] at h
    obtain ⟨rfl, rfl⟩ := h
    exact (s26N_at.2 [.int .i64 n, .int .i64 m, .flt .f32 r, .flt .f32 s, .flt .f32 cc] _ _ rfl hc).emp_of
  · cases h
end Go.Fw.W1

/-
  Vectors marked, at any object.
-/
namespace Go.Fw.W1
open Go.Proofs
def IVg (ID m k0 k : Nat) : List A := [.sl ID m, .int .i64 (Int.ofNat (k0 + 3 * k)), .int .i64 (Int.ofNat 0), .int .i64 (Int.ofNat k)]
def RVg (ID m k0 k e : Nat) (x y z : Nat → Nat) (M : List (Nat × O)) (L : XK → List A → List (Nat × O) → Prop) : Prop :=
    bif decide (Int.ofNat k < Int.ofNat m) then 
       bif decide (Int.ofNat k < Int.ofNat m) then 
         bif decide (Int.ofNat k < Int.ofNat m) then 
           bif decide (Int.ofNat k < Int.ofNat m) then 
             L (XK.normal) ([A.sl ID m, A.int IntKind.i64 (IntKind.i64.wrap (IntKind.i64.wrap (IntKind.i64.wrap (Int.ofNat (k0 + 3 * k) + Int.ofNat 1) + Int.ofNat 1) + Int.ofNat 1)), A.int IntKind.i64 (Int.ofNat 0), A.int IntKind.i64 (IntKind.i64.wrap (Int.ofNat k + Int.ofNat 1))]) ((ID,     O.row e 3 m       (Row.vecs FloatKind.f32         (fun j =>           (match decide (j = (Int.ofNat k).toNat) with | true => (match decide ((Int.ofNat k).toNat = (Int.ofNat k).toNat) with | true => (match decide ((Int.ofNat k).toNat = (Int.ofNat k).toNat) with | true => fofInt FloatKind.f32 (Int.ofNat (k0 + 3 * k)) | false => x k) | false => (match decide ((Int.ofNat k).toNat = (Int.ofNat k).toNat) with | true => fofInt FloatKind.f32 (Int.ofNat (k0 + 3 * k)) | false => x k)) | false => (match decide (j = (Int.ofNat k).toNat) with | true => (match decide ((Int.ofNat k).toNat = (Int.ofNat k).toNat) with | true => fofInt FloatKind.f32 (Int.ofNat (k0 + 3 * k)) | false => x k) | false => (match decide (j = (Int.ofNat k).toNat) with | true => fofInt FloatKind.f32 (Int.ofNat (k0 + 3 * k)) | false => x j))))         (fun j =>           (match decide (j = (Int.ofNat k).toNat) with | true => (match decide ((Int.ofNat k).toNat = (Int.ofNat k).toNat) with | true => fofInt FloatKind.f32 (IntKind.i64.wrap (Int.ofNat (k0 + 3 * k) + Int.ofNat 1)) | false => (match decide ((Int.ofNat k).toNat = (Int.ofNat k).toNat) with | true => y k | false => y k)) | false => (match decide (j = (Int.ofNat k).toNat) with | true => fofInt FloatKind.f32 (IntKind.i64.wrap (Int.ofNat (k0 + 3 * k) + Int.ofNat 1)) | false => (match decide (j = (Int.ofNat k).toNat) with | true => y k | false => y j))))         fun j =>         (match decide (j = (Int.ofNat k).toNat) with | true => fofInt FloatKind.f32 (IntKind.i64.wrap (IntKind.i64.wrap (Int.ofNat (k0 + 3 * k) + Int.ofNat 1) + Int.ofNat 1)) | false => (match decide (j = (Int.ofNat k).toNat) with | true => (match decide ((Int.ofNat k).toNat = (Int.ofNat k).toNat) with | true => z k | false => z k) | false => (match decide (j = (Int.ofNat k).toNat) with | true => z k | false => z j))))) ::   (ID,       O.row e 3 m         (Row.vecs FloatKind.f32           (fun j =>             (match decide (j = (Int.ofNat k).toNat) with | true => (match decide ((Int.ofNat k).toNat = (Int.ofNat k).toNat) with | true => fofInt FloatKind.f32 (Int.ofNat (k0 + 3 * k)) | false => x k) | false => (match decide (j = (Int.ofNat k).toNat) with | true => fofInt FloatKind.f32 (Int.ofNat (k0 + 3 * k)) | false => x j)))           (fun j =>             (match decide (j = (Int.ofNat k).toNat) with | true => fofInt FloatKind.f32 (IntKind.i64.wrap (Int.ofNat (k0 + 3 * k) + Int.ofNat 1)) | false => (match decide (j = (Int.ofNat k).toNat) with | true => y k | false => y j)))           fun j =>           (match decide (j = (Int.ofNat k).toNat) with | true => (match decide ((Int.ofNat k).toNat = (Int.ofNat k).toNat) with | true => z k | false => z k) | false => (match decide (j = (Int.ofNat k).toNat) with | true => z k | false => z j)))) ::     (ID,         O.row e 3 m           (Row.vecs FloatKind.f32             (fun j =>               (match decide (j = (Int.ofNat k).toNat) with | true => fofInt FloatKind.f32 (Int.ofNat (k0 + 3 * k)) | false => x j))             (fun j =>               (match decide (j = (Int.ofNat k).toNat) with | true => y k | false => y j))             fun j =>             (match decide (j = (Int.ofNat k).toNat) with | true => z k | false => z j))) ::       (ID, O.row e 3 m (Row.vecs FloatKind.f32 x y z)) :: M) 
           else 
             False 
         else 
           False 
       else 
         False 
     else 
       L (XK.exit 0) ([A.sl ID m, A.int IntKind.i64 (Int.ofNat (k0 + 3 * k)), A.int IntKind.i64 (Int.ofNat 0), A.int IntKind.i64 (Int.ofNat k)]) ((ID, O.row e 3 m (Row.vecs FloatKind.f32 x y z)) :: M) 
noncomputable def FVg (ID : Nat) : List A → O → Option (Bool × List A × O)
  | [.sl j m, .int .i64 (.ofNat k0), .int .i64 0, .int .i64 0], .row e 3 m2 (.vecs .f32 _ _ _) => some (Nat.beq j ID && Nat.beq m2 m && Nat.ble m 1048577 && Nat.ble k0 1000000000, IVg ID m k0 m, .row e 3 m (.vecs .f32 (fun j => mk3 k0 j 0) (fun j => mk3 k0 j 1) (fun j => mk3 k0 j 2)))
  | _, _ => none
theorem markVH (ID : Nat) (hround : ∀ (m k0 k e lo nx : Nat) (x y z : Nat → Nat) (M : List (Nat × O)) (L : XK → List A → List (Nat × O) → Prop),
    ((exec cfg37 (fun _ => true) (fun _ => none) 0 1000 (loopOf Try.f82 0) (stM Try.f82.ntmps lo nx [0, 1, 4, 5] (IVg ID m k0 k) ID (.row e 3 m (.vecs .f32 x y z)) M)).rm [0, 1, 4, 5]).Ok L = RVg ID m k0 k e x y z M L) :
    ∀ az o az' o', FVg ID az o = some (true, az', o') → ∃ (I : Nat → List A) (J : Nat → O) (N : Nat), az = I 0 ∧ OSim (some o) (J 0) ∧ (∀ k, (J k).isRow = true) ∧ o'.isRow = true ∧ ALe (I N) az' ∧ OSim (some (J N)) o' ∧
      ∀ k, k ≤ N → ∀ lo nx M, ((exec cfg37 (fun _ => true) (fun _ => none) 0 1000 (loopOf Try.f82 0) (stM Try.f82.ntmps lo nx [0, 1, 4, 5] (I k) ID (J k) M)).rm [0, 1, 4, 5]).Ok fun x az mem => match x with
        | .normal => k < N ∧ az = I (k + 1) ∧ SimMem mem ID M (J (k + 1))
        | .exit i => i = 0 ∧ k = N ∧ az = I N ∧ SimMem mem ID M (J N)
        | .ret => False := by
  intro az o az' o' hF
  unfold FVg at hF
  split at hF
  · rename_i j m k0 e m2 x y z
    simp only [Option.some.injEq, Prod.mk.injEq, Bool.and_eq_true, Nat.beq_eq, Nat.ble_eq] at hF
    obtain ⟨⟨⟨⟨hj, hm2⟩, hm⟩, hk0⟩, rfl, rfl⟩ := hF
    subst hj hm2
    refine ⟨IVg j m2 k0, JV e m2 k0 x y z, m2, rfl, ⟨e, _, rfl, .inr rfl, fun i _ => rfl⟩, fun _ => rfl, rfl, ALe.self _, ⟨e, _, rfl, .inr rfl, fun i hi => ?_⟩, fun k hk lo nx M => ?_⟩
    · simp [Row.at, uptoV, hi]
    · unfold JV
      rw [hround, RVg]
      by_cases hkm : k < m2
      · rw [lt_dec hkm]
        refine ⟨hkm, ?_, fun j' hj' => ?_, ?_⟩
        · rw [wrap_succ (by omega), wrap_succ (by omega), wrap_succ (by omega), wrap_succ (by omega)]
          show [A.sl j m2, .int .i64 (Int.ofNat (k0 + 3 * k + 1 + 1 + 1)), .int .i64 (Int.ofNat 0), .int .i64 (Int.ofNat (k + 1))] = _
          rw [show k0 + 3 * k + 1 + 1 + 1 = k0 + 3 * (k + 1) by omega]; rfl
        · rw [look_cons_other _ _ hj', look_cons_other _ _ hj', look_cons_other _ _ hj', look_cons_other _ _ hj']
        · rw [look_cons_same]
          refine ⟨e, _, rfl, .inr rfl, fun i hi => vec_at ?_ ?_ ?_⟩
          · refine upto_step (k := k) (v := fofInt .f32 (Int.ofNat (k0 + 3 * k))) rfl i (fun j => _) (fun h => by subst h; simp) (fun h => by simp [h])
          · refine upto_step (k := k) (v := fofInt .f32 (Int.ofNat (k0 + 3 * k + 1))) rfl i (fun j => _) (fun h => by subst h; rw [wrap_succ (by omega)]; simp) (fun h => by simp [h])
          · refine upto_step (k := k) (v := fofInt .f32 (Int.ofNat (k0 + 3 * k + 1 + 1))) rfl i (fun j => _) (fun h => by subst h; rw [wrap_succ (by omega), wrap_succ (by omega)]; simp) (fun h => by simp [h])
      · rw [ge_dec (show m2 ≤ k by omega)]
        obtain rfl : k = m2 := by omega
        refine ⟨rfl, rfl, rfl, fun j' hj' => ?_, ?_⟩
        · rw [look_cons_other _ _ hj']
        · rw [look_cons_same]
          exact ⟨e, _, rfl, .inr rfl, fun _ _ => rfl⟩
  · cases hF
noncomputable def markVg (lp : List (Nat × (St → T))) (σ : St) : T := match σ.get 0 with
  | .emp => exec cfgN (fun _ => true) (fun _ => none) 1 1000 (bodyOf Try.f82) σ
  | _ => exec cfgN (fun _ => true) (look lp) 0 1000 (bodyOf Try.f82) σ
theorem markVg_ok {lp : List (Nat × (St → T))} (hl : LpOK Try.prog (look lp) (bodyOf Try.f82)) : CodeOK Try.prog (fun _ σ => markVg lp σ) (bodyOf Try.f82) := by
  intro σ L hok
  replace hok : (markVg lp σ).Ok Try.prog L := hok
  unfold markVg at hok
  split at hok
  · exact codeOK_exec cfgN_ok (lp_none _) σ L hok
  · exact codeOK_exec cfgN_ok hl σ L hok
noncomputable def fxVg (lp : List (Nat × (St → T))) : List (Nat × (St → T)) := [(82, markVg lp)]
theorem fxVg_ok {lp : List (Nat × (St → T))} (hl : LpOK Try.prog (look lp) (bodyOf Try.f82)) (g : Nat) (s : St → T) (fn : Func) (body : Code) (h1 : (g, s) ∈ fxVg lp) (h2 : (g, fn) ∈ ftsV) (h3 : fn.body = some body) : CodeOK Try.prog (fun _ σ => s σ) body := by
  simp only [fxVg, List.mem_singleton, Prod.mk.injEq] at h1
  obtain ⟨rfl, rfl⟩ := h1
  simp only [ftsV, List.mem_cons, Prod.mk.injEq, List.not_mem_nil, or_false] at h2
  rcases h2 with ⟨h2, _⟩ | ⟨_, rfl⟩
  · omega
  · have e : bodyOf Try.f82 = body := by unfold bodyOf; rw [h3]
    rw [← e]
    exact markVg_ok hl
noncomputable def cfgVg (lp : List (Nat × (St → T))) (env : List (Nat × (List A → Option (Bool × A)))) : Cfg := mkCfgX tab ftsV xts (look env) (fxVg lp)
theorem cfgVg_ok {lp : List (Nat × (St → T))} (hl : LpOK Try.prog (look lp) (bodyOf Try.f82)) {env : List (Nat × (List A → Option (Bool × A)))} (h : EnvOK Try.prog (look env)) : CfgOK Try.prog (cfgVg lp env) := cfgX_ok tab_eq ftsV_ok xts_ok h mixed (fxVg_ok hl)
noncomputable def lpVg (l : List Nat) : List (Nat × (St → T)) := [(0, sumD 0 (l.map fun i => (i, sumM Try.f82.ntmps [0, 1, 4, 5] i (FVg i))))]
theorem lpVg_ok {l : List Nat} (h : ∀ i, i ∈ l → CodeOK Try.prog (fun _ σ => sumM Try.f82.ntmps [0, 1, 4, 5] i (FVg i) σ) (.block 0 (.loop (loopOf Try.f82 0)))) : LpOK Try.prog (look (lpVg l)) (bodyOf Try.f82) := lp_loops (by kernel_rfl) (by kernel_rfl) fun p hp => by
  rw [List.mem_singleton.1 hp]
  exact sumD_ok fun p hp => by
    obtain ⟨i, hi, rfl⟩ := List.mem_map.1 hp
    exact h i hi
noncomputable def envHelixT : List (Nat × (List A → Option (Bool × A))) := (25, s25T) :: (26, s26T) :: env37
theorem envHelixT_ok : EnvOK Try.prog (look envHelixT) := env_cons s25T_at (env_cons s26T_at env37_ok)
noncomputable def envHelixN : List (Nat × (List A → Option (Bool × A))) := (25, s25F) :: (26, s26F) :: envNil
theorem envHelixN_ok : EnvOK Try.prog (look envHelixN) := env_cons s25F_at (env_cons s26F_at envNil_ok)
end Go.Fw.W1

/-
  A helix' law.
-/
namespace Go.Fw.W1
open Go.Proofs
theorem roundV288 (m k0 k e lo nx : Nat) (x y z : Nat → Nat) (M : List (Nat × O)) (L : XK → List A → List (Nat × O) → Prop) :
    ((exec cfg37 (fun _ => true) (fun _ => none) 0 1000 (loopOf Try.f82 0) (stM Try.f82.ntmps lo nx [0, 1, 4, 5] (IVg 288 m k0 k) 288 (.row e 3 m (.vecs .f32 x y z)) M)).rm [0, 1, 4, 5]).Ok L = RVg 288 m k0 k e x y z M L := by kernel_rfl
theorem loopV288 : CodeOK Try.prog (fun _ σ => sumM Try.f82.ntmps [0, 1, 4, 5] 288 (FVg 288) σ) (.block 0 (.loop (loopOf Try.f82 0))) :=
  sumM_ok (own := fun _ => true) (lp := fun _ => none) (un := 0) (fuel := 1000) cfg37_ok (lp_none _) (markVH 288 fun m k0 k e lo nx x y z M L => roundV288 m k0 k e lo nx x y z M L)

noncomputable def lpHelix : List (Nat × (St → T)) := lpVg [288]
theorem lpHelix_ok : LpOK Try.prog (look lpHelix) (bodyOf Try.f82) := lpVg_ok fun i hi => by
  rw [List.mem_singleton.1 hi]; exact loopV288
theorem helixT (n m : Int) (r s c : Nat) : autoLp (cfgVg lpHelix envHelixT) (fun _ => none) Try.f5 [.int .i64 n, .int .i64 m, .flt .f32 r, .flt .f32 s, .flt .f32 c] =
    some (helixOk n m r s c && (helixOk n m r s c && (n.toNat.beq n.toNat && n.toNat.ble 1048576 && allUpTo (sameVAt (ringX m r) (ringY m r) (helixZ s) (ringX m r) (ringY m r) (helixZ s)) n.toNat && true && sameF (fcvt FloatKind.f32 FloatKind.f64 c) (fcvt FloatKind.f32 FloatKind.f64 c) && (n.toNat.beq n.toNat && n.toNat.ble 1048577 && true && (n.toNat.ble 1048577 && true && allUpTo (heldV (fun j => mk3 1 j 0) (fun j => mk3 1 j 1) (fun j => mk3 1 j 2) 1) n.toNat && bif Int.ofNat (1 + 3 * n.toNat) != Int.ofNat (1 + 3 * n.toNat) then true else helixOk n m r s c && (n.toNat.beq n.toNat && n.toNat.ble 1048576 && allUpTo (sameVAt (ringX m r) (ringY m r) (helixZ s) (ringX m r) (ringY m r) (helixZ s)) n.toNat && true && sameF (fcvt FloatKind.f32 FloatKind.f64 c) (fcvt FloatKind.f32 FloatKind.f64 c) && (n.toNat.ble 1048577 && true && allUpTo (heldV (fun j => mk3 1 j 0) (fun j => mk3 1 j 1) (fun j => mk3 1 j 2) 1) n.toNat && bif Int.ofNat (1 + 3 * n.toNat) != Int.ofNat (1 + 3 * n.toNat) then true else true)))))), A.bool (bif Int.ofNat (1 + 3 * n.toNat) != Int.ofNat (1 + 3 * n.toNat) then false else bif Int.ofNat (1 + 3 * n.toNat) != Int.ofNat (1 + 3 * n.toNat) then false else true)) := by kernel_rfl
theorem helixN (n m : Int) (r s c : Nat) : autoLp (cfgVg lpHelix envHelixN) (fun _ => none) Try.f5 [.int .i64 n, .int .i64 m, .flt .f32 r, .flt .f32 s, .flt .f32 c] =
    some (!helixOk n m r s c && (!helixOk n m r s c && ((bif !sameF (fcvt FloatKind.f32 FloatKind.f64 0) (fcvt FloatKind.f32 FloatKind.f64 0) then true else true) && bif bif !bif !sameF (fcvt FloatKind.f32 FloatKind.f64 0) (fcvt FloatKind.f32 FloatKind.f64 0) then false else true then true else false then true else bif decide ((bif decide (1 < 0) then -1 else 1) < 0) then true else bif Int.ofNat 1 != Int.ofNat 1 then true else !helixOk n m r s c && ((bif !sameF (fcvt FloatKind.f32 FloatKind.f64 0) (fcvt FloatKind.f32 FloatKind.f64 0) then true else true) && bif bif !bif !sameF (fcvt FloatKind.f32 FloatKind.f64 0) (fcvt FloatKind.f32 FloatKind.f64 0) then false else true then true else false then true else bif decide ((bif decide (1 < 0) then -1 else 1) < 0) then true else bif Int.ofNat 1 != Int.ofNat 1 then true else true))), A.bool (bif bif !bif !sameF (fcvt FloatKind.f32 FloatKind.f64 0) (fcvt FloatKind.f32 FloatKind.f64 0) then false else true then true else false then false else bif decide ((bif decide (1 < 0) then -1 else 1) < 0) then false else bif Int.ofNat 1 != Int.ofNat 1 then false else bif bif !bif !sameF (fcvt FloatKind.f32 FloatKind.f64 0) (fcvt FloatKind.f32 FloatKind.f64 0) then false else true then true else false then false else bif decide ((bif decide (1 < 0) then -1 else 1) < 0) then false else bif Int.ofNat 1 != Int.ofNat 1 then false else true)) := by kernel_rfl
theorem law5' (n m : Int) (r s c : Nat) : PureCall Try.prog 5 [.int .i64 n, .int .i64 m, .flt .f32 r, .flt .f32 s, .flt .f32 c] (.bool true) := by
  have keyT := (auto_at (cfgVg_ok lpHelix_ok envHelixT_ok) Try.func5 (by kernel_rfl) (by kernel_rfl)).2 _ _ _ (helixT n m r s c)
  have keyF := (auto_at (cfgVg_ok lpHelix_ok envHelixN_ok) Try.func5 (by kernel_rfl) (by kernel_rfl)).2 _ _ _ (helixN n m r s c)
  cases hr : helixOk n m r s c
  · rw [hr] at keyF
    simp only [sameF_self, bne_self_eq_false, Bool.cond_self, Bool.not_true, Bool.not_false, cond_false, cond_true, Bool.and_true, Bool.true_and] at keyF
    exact keyF (by decide)
  · obtain ⟨_, _, _, _, _, h5⟩ := helix_ok hr
    have e1 : ∀ m, allUpTo (heldV (fun j => mk3 1 j 0) (fun j => mk3 1 j 1) (fun j => mk3 1 j 2) 1) m = true := allUpTo_all (heldV_mk 1)
    have e2 : ∀ k, allUpTo (sameVAt (ringX m r) (ringY m r) (helixZ s) (ringX m r) (ringY m r) (helixZ s)) k = true := allUpTo_all (sameVAt_self _ _ _)
    rw [hr, ble_of (show n.toNat ≤ 1048576 by omega), ble_of (show n.toNat ≤ 1048577 by omega)] at keyT
    simp only [e1, e2, sameF_self, bne_self_eq_false, Nat.beq_refl, Bool.cond_self, Bool.not_true, cond_false, cond_true, Bool.and_true, Bool.true_and] at keyT
    exact keyT trivial
theorem law5 {i j : Int} {a b d : A} (_hi : IntA i) (_hj : IntA j) (ha : FltA a) (hb : FltA b) (hd : FltA d) : PureCall Try.prog 5 [.int .i64 i, .int .i64 j, a, b, d] (.bool true) := by
  obtain ⟨r, _, rfl⟩ := ha
  obtain ⟨h, _, rfl⟩ := hb
  obtain ⟨c, _, rfl⟩ := hd
  exact law5' i j r h c
end Go.Fw.W1

/-
  Wires that are turned: tables.
-/
namespace Go.Fw.W1
open Go.Proofs
noncomputable def ftsS : List (Nat × Func) := [(75, Try.f75), (81, Try.f81), (94, Try.f94), (95, Try.f95)]
theorem ftsS_ok (f : Nat) (fn : Func) (h : (f, fn) ∈ ftsS) : Try.prog.funcs[f]? = some fn ∧ (fn.name == "runtime.NumGoroutine") = false := by
  simp only [ftsS, List.mem_cons, Prod.mk.injEq, List.not_mem_nil, or_false] at h
  rcases h with ⟨rfl, rfl⟩ | ⟨rfl, rfl⟩ | ⟨rfl, rfl⟩ | ⟨rfl, rfl⟩
  · exact ⟨Try.func75, by kernel_rfl⟩
  · exact ⟨Try.func81, by kernel_rfl⟩
  · exact ⟨Try.func94, by kernel_rfl⟩
  · exact ⟨Try.func95, by kernel_rfl⟩
noncomputable def cfgS : Cfg := mkCfg tab ftsS xts (look env35)
theorem cfgS_ok : CfgOK Try.prog cfgS := cfg_ok tab_eq ftsS_ok xts_ok env35_ok mixed
noncomputable def cfgSD : Cfg := mkCfg (nilTab tab) ftsS xts (look env35)
theorem cfgSD_ok : CfgOK Try.prog cfgSD := cfgN_ok' tab_eq ftsS_ok xts_ok env35_ok mixed
end Go.Fw.W1

/-
  A wire that is turned: the reference's loop.
-/
namespace Go.Fw.W1
open Go.Proofs
theorem upto_self (k : Nat) (a b : Nat → Nat) : upto k a b k = b k := by simp [upto]
theorem upto_put {k v : Nat} {a b : Nat → Nat} (hv : v = a k) (j : Nat) : (match decide (j = k) with | true => v | false => upto k a b j) = upto (k + 1) a b j := by subst hv; exact upto_set a b j
theorem same_put {k : Nat} {z : Nat → Nat} (j : Nat) : (match decide (j = k) with | true => z k | false => z j) = z j := by
  by_cases h : j = k
  · subst h; simp
  · simp [h]
noncomputable def spX (c s : Nat) (x y : Nat → Nat) (p : Nat) : Nat := fop .sub .f32 (fop .mul .f32 c (x p)) (fop .mul .f32 s (y p))
noncomputable def spY (c s : Nat) (x y : Nat → Nat) (p : Nat) : Nat := fop .add .f32 (fop .mul .f32 s (x p)) (fop .mul .f32 c (y p))
theorem spX_at {c s k v : Nat} {x y : Nat → Nat} (h : v = fop .sub .f32 (fop .mul .f32 c (x k)) (fop .mul .f32 s (y k))) : v = spX c s x y k := h
theorem spY_at {c s k v : Nat} {x y : Nat → Nat} (h : v = fop .add .f32 (fop .mul .f32 s (x k)) (fop .mul .f32 c (y k))) : v = spY c s x y k := h
noncomputable def I36 (n cur c s : Nat) (x y z : Nat → Nat) (cl : Bool) (k : Nat) : List A := [.flt .f32 c, .flt .f32 s, .ptr 288 0, .int .i64 (Int.ofNat k), .ptr 16 0, .bool false]
noncomputable def J36 (n cur c s : Nat) (x y z : Nat → Nat) (cl : Bool) (k : Nat) : List O := [.var [.sl 416 n, .bool cl, .flt .f32 cur], .row 59 3 n (.vecs .f32 (upto k (spX c s x y) x) (upto k (spY c s x y) y) z), .var [.emp, .bool false, .flt .f32 0]]
theorem round36 (n cur c s : Nat) (x y z : Nat → Nat) (cl : Bool) (k : Nat) (L : XK → List A → List (Option O) → Prop) :
    ((exec cfgS (fun _ => true) (fun _ => none) 0 1000 (loopOf Try.f36 0) (litSt Try.f36.ntmps 608 [6, 7, 8, 9, 4, 5] [288, 416, 16] (I36 n cur c s x y z cl k) (J36 n cur c s x y z cl k))).rt [6, 7, 8, 9, 4, 5] [288, 416, 16]).Ok L =
    bif decide (Int.ofNat k < Int.ofNat n) then 
       bif decide (Int.ofNat k < Int.ofNat n) then 
         bif decide (Int.ofNat k < Int.ofNat n) then 
           L (XK.normal) ([A.flt FloatKind.f32 c, A.flt FloatKind.f32 s, A.ptr 288 0, A.int IntKind.i64 (IntKind.i64.wrap (Int.ofNat k + Int.ofNat 1)), A.ptr 16 0, A.bool false]) ([some (O.var [A.sl 416 n, A.bool cl, A.flt FloatKind.f32 cur]),   some     (O.row 59 3 n       (Row.vecs FloatKind.f32         (fun j =>           (match decide (j = (Int.ofNat k).toNat) with | true => fop BinOp.sub FloatKind.f32 (fop BinOp.mul FloatKind.f32 c (upto k (spX c s x y) x k)) (fop BinOp.mul FloatKind.f32 s (upto k (spY c s x y) y k)) | false => upto k (spX c s x y) x j))         (fun j =>           (match decide (j = (Int.ofNat k).toNat) with | true => fop BinOp.add FloatKind.f32 (fop BinOp.mul FloatKind.f32 s (upto k (spX c s x y) x k)) (fop BinOp.mul FloatKind.f32 c (upto k (spY c s x y) y k)) | false => upto k (spY c s x y) y j))         fun j =>         (match decide (j = (Int.ofNat k).toNat) with | true => z k | false => z j))),   some (O.var [A.emp, A.bool false, A.flt FloatKind.f32 0])]) 
         else 
           False 
       else 
         False 
     else 
       L (XK.exit 0) ([A.flt FloatKind.f32 c, A.flt FloatKind.f32 s, A.ptr 288 0, A.int IntKind.i64 (Int.ofNat k), A.ptr 16 0, A.bool false]) ([some (O.var [A.sl 416 n, A.bool cl, A.flt FloatKind.f32 cur]), some (O.row 59 3 n (Row.vecs FloatKind.f32 (fun p => upto k (spX c s x y) x p) (fun p => upto k (spY c s x y) y p) z)), some (O.var [A.emp, A.bool false, A.flt FloatKind.f32 0])]) := by kernel_rfl
noncomputable def F36 : List A → List (Option O) → Option R3
  | [.flt .f32 c, .flt .f32 s, .ptr 288 0, .int .i64 0, .ptr 16 0, .bool false], [some (.var [.sl 416 n, .bool cl, .flt .f32 cur]), some (.row 59 3 n2 (.vecs .f32 x y z)), some (.var [.emp, .bool false, .flt .f32 0])] => some (.ite (Nat.beq n n2 && Nat.ble n 1073741824) (.leaf .normal (I36 n cur c s x y z cl (n)) [.var [.sl 416 n, .bool cl, .flt .f32 cur], .row 59 3 n (.vecs .f32 (spX c s x y) (spY c s x y) z), .var [.emp, .bool false, .flt .f32 0]]) .fail)
  | _, _ => none
theorem loop36 : CodeOK Try.prog (fun _ σ => sumAt Try.f36.ntmps 608 [6, 7, 8, 9, 4, 5] [288, 416, 16] F36 σ) (.block 0 (.loop (loopOf Try.f36 0))) := by
  refine block_ok (own := fun _ => true) (lp := (fun _ => none)) (un := 0) (fuel := 1000) cfgS_ok (lp_none _) fun az os R hF hok => ?_
  unfold F36 at hF
  split at hF
  · rename_i c s n cl cur n2 x y z
    injection hF with hF
    subst hF
    have hg := hok.guard
    have hg' := hg
    simp only [Bool.and_eq_true, Nat.ble_eq, Nat.beq_eq, decide_eq_true_eq] at hg'
    obtain ⟨rfl, hn⟩ := hg'
    refine for_fact (ids := [288, 416, 16]) (fun _ => true) (n) (I36 n cur c s x y z cl) (J36 n cur c s x y z cl) _ (.ret) (I36 n cur c s x y z cl) (I36 n cur c s x y z cl) (I36 n cur c s x y z cl (n)) [.var [.sl 416 n, .bool cl, .flt .f32 cur], .row 59 3 n (.vecs .f32 (spX c s x y) (spY c s x y) z), .var [.emp, .bool false, .flt .f32 0]] rfl (by unfold J36; exact ⟨rfl, ⟨59, _, rfl, .inr rfl, fun p hp => vec_at rfl rfl rfl⟩, rfl, trivial⟩) (fun _ => rfl) (fun _ => rfl) (fun _ => ALe.self _) (fun _ => rfl) (ALe.self _) (by unfold J36; exact ⟨rfl, ⟨59, _, rfl, .inr rfl, fun p hp => vec_at (upto_end _ _ hp) (upto_end _ _ hp) rfl⟩, rfl, trivial⟩) rfl (fun h => by cases h) (fun k hk L h1 h2 h3 => ?_) fun L hL => ?_
    · rw [round36]

      by_cases hkm : k < n
      · refine condT (lt_dec hkm) ?_
        rw [wrap_succ (by omega)]
        refine condT (lt_dec hkm) ?_
        refine condT (lt_dec hkm) ?_
        exact h1 hkm rfl _ ⟨rfl, ⟨59, _, rfl, .inr rfl, fun p hp => vec_at (upto_put (spX_at (by rw [upto_self, upto_self]; rfl)) p) (upto_put (spY_at (by rw [upto_self, upto_self]; rfl)) p) (same_put p)⟩, rfl, trivial⟩
      · refine condE (ge_dec (by omega)) ?_
        obtain rfl : k = n := by omega
        exact h3 rfl
    · exact ⟨fun _ => hL.1 hg, fun N _ h => by cases h⟩
  · cases hF

end Go.Fw.W1

/-
  A wire that is turned: the reference.
-/
namespace Go.Fw.W1
open Go.Proofs
noncomputable def sT (t : Nat) : Nat := fcvt .f64 .f32 (sineW (fcvt .f32 .f64 t))
noncomputable def cT (t : Nat) : Nat := fcvt .f64 .f32 (sineW (fcvt .f32 .f64 (fop .add .f32 t (can .f32 1048576000))))
noncomputable def spinOk (n cur : Nat) (x y z : Nat → Nat) (t : Nat) : Bool := okW n cur x y z && fin t && okW n cur (spX (cT t) (sT t) x y) (spY (cT t) (sT t) x y) z
theorem spin_ok {n cur t : Nat} {x y z : Nat → Nat} (h : spinOk n cur x y z t = true) : okW n cur x y z = true ∧ fin t = true ∧ okW n cur (spX (cT t) (sT t) x y) (spY (cT t) (sT t) x y) z = true ∧ 1 ≤ n ∧ n ≤ 1000 := by
  unfold spinOk at h
  simp only [Bool.and_eq_true] at h
  obtain ⟨⟨h1, h2⟩, h3⟩ := h
  exact ⟨h1, h2, h3, by have := okW_n h1; omega, by have := okW_n h1; omega⟩
noncomputable def lp36T : List (Nat × (St → T)) := [(0, sumAt Try.f36.ntmps 608 [6, 7, 8, 9, 4, 5] [288, 416, 16] F36)]
theorem lp36T_ok : LpOK Try.prog (look lp36T) (bodyOf Try.f36) := lp_loops (by kernel_rfl) (by kernel_rfl) fun p hp => by
  simp only [lp36T, List.mem_cons, List.not_mem_nil, or_false] at hp
  rcases hp with rfl
  · exact loop36
theorem auto36T (n cur : Nat) (x y z : Nat → Nat) (cl : Bool) (t : Nat) : autoS cfgS (look lp36T) false Try.f36 [.agg [.ro 3 n (.vecs .f32 x y z), .bool cl, .flt .f32 cur], .flt .f32 t] =
    some (n.ble 4611686018427387000 && ((!bif !okW n cur x y z then true else !fin t) && (decide (0 < n) && decide (n ≤ 1073741824) && true && (n.beq n && n.ble 1073741824 && (n.ble 4611686018427387000 && (!!okW n cur (spX (fcvt FloatKind.f64 FloatKind.f32 (sineW (fcvt FloatKind.f32 FloatKind.f64 (fop BinOp.add FloatKind.f32 t (can FloatKind.f32 1048576000))))) (fcvt FloatKind.f64 FloatKind.f32 (sineW (fcvt FloatKind.f32 FloatKind.f64 t))) x y) (spY (fcvt FloatKind.f64 FloatKind.f32 (sineW (fcvt FloatKind.f32 FloatKind.f64 (fop BinOp.add FloatKind.f32 t (can FloatKind.f32 1048576000))))) (fcvt FloatKind.f64 FloatKind.f32 (sineW (fcvt FloatKind.f32 FloatKind.f64 t))) x y) z && true))))), A.tup [A.agg [A.ro 3 n (Row.vecs FloatKind.f32 (fun p => spX (fcvt FloatKind.f64 FloatKind.f32 (sineW (fcvt FloatKind.f32 FloatKind.f64 (fop BinOp.add FloatKind.f32 t (can FloatKind.f32 1048576000))))) (fcvt FloatKind.f64 FloatKind.f32 (sineW (fcvt FloatKind.f32 FloatKind.f64 t))) x y p) (fun p => spY (fcvt FloatKind.f64 FloatKind.f32 (sineW (fcvt FloatKind.f32 FloatKind.f64 (fop BinOp.add FloatKind.f32 t (can FloatKind.f32 1048576000))))) (fcvt FloatKind.f64 FloatKind.f32 (sineW (fcvt FloatKind.f32 FloatKind.f64 t))) x y p) z), A.bool cl, A.flt FloatKind.f32 cur], A.bool true]) := by kernel_rfl
noncomputable def s36T : List A → Option (Bool × A)
  | [.agg [.ro 3 n (.vecs .f32 x y z), .bool cl, .flt .f32 cur], .flt .f32 t] => some (spinOk n cur x y z t, .tup [.agg [.ro 3 n (.vecs .f32 (spX (cT t) (sT t) x y) (spY (cT t) (sT t) x y) z), .bool cl, .flt .f32 cur], .bool true])
  | _ => none
theorem s36T_at : EnvAt Try.prog 36 s36T := of_autoS cfgS_ok lp36T_ok Try.func36 (by kernel_rfl) (by kernel_rfl) fun ds cc rr h hc => by
  unfold s36T at h
  split at h
  · rename_i n x y z cl cur t
    simp only [Option.some.injEq, Prod.mk.injEq] at h
    obtain ⟨rfl, rfl⟩ := h
    refine auto_fit (auto36T n cur x y z cl t) ?_ ?_
    · rfl
    · obtain ⟨h1, h2, h3, h4, h5⟩ := spin_ok hc
      show (n.ble 4611686018427387000 && ((!bif !okW n cur x y z then true else !fin t) && (decide (0 < n) && decide (n ≤ 1073741824) && true && (n.beq n && n.ble 1073741824 && (n.ble 4611686018427387000 && (!!okW n cur (spX (cT t) (sT t) x y) (spY (cT t) (sT t) x y) z && true)))))) = true
      rw [h1, h2, h3, ble_of (show n ≤ 4611686018427387000 by omega), ble_of (show n ≤ 1073741824 by omega), decide_eq_true (show 0 < n by omega), decide_eq_true (show n ≤ 1073741824 by omega), Nat.beq_refl]; rfl
  · cases h

noncomputable def lp36F : List (Nat × (St → T)) := [(0, sumAt Try.f36.ntmps 608 [6, 7, 8, 9, 4, 5] [288, 416, 16] F36)]
theorem lp36F_ok : LpOK Try.prog (look lp36F) (bodyOf Try.f36) := lp_loops (by kernel_rfl) (by kernel_rfl) fun p hp => by
  simp only [lp36F, List.mem_cons, List.not_mem_nil, or_false] at hp
  rcases hp with rfl
  · exact loop36
theorem auto36F (n cur : Nat) (x y z : Nat → Nat) (cl : Bool) (t : Nat) : autoS cfgS (look lp36F) true Try.f36 [.agg [.ro 3 n (.vecs .f32 x y z), .bool cl, .flt .f32 cur], .flt .f32 t] =
    some (n.ble 4611686018427387000 && bif bif !okW n cur x y z then true else !fin t then true else decide (0 < n) && decide (n ≤ 1073741824) && true && (n.beq n && n.ble 1073741824 && (n.ble 4611686018427387000 && (!okW n cur (spX (fcvt FloatKind.f64 FloatKind.f32 (sineW (fcvt FloatKind.f32 FloatKind.f64 (fop BinOp.add FloatKind.f32 t (can FloatKind.f32 1048576000))))) (fcvt FloatKind.f64 FloatKind.f32 (sineW (fcvt FloatKind.f32 FloatKind.f64 t))) x y) (spY (fcvt FloatKind.f64 FloatKind.f32 (sineW (fcvt FloatKind.f32 FloatKind.f64 (fop BinOp.add FloatKind.f32 t (can FloatKind.f32 1048576000))))) (fcvt FloatKind.f64 FloatKind.f32 (sineW (fcvt FloatKind.f32 FloatKind.f64 t))) x y) z && true))), A.tup [A.agg [A.emp, A.bool (bif bif !okW n cur x y z then true else !fin t then false else false), A.flt FloatKind.f32 (bif bif !okW n cur x y z then true else !fin t then 0 else 0)], A.bool (bif bif !okW n cur x y z then true else !fin t then false else false)]) := by kernel_rfl
noncomputable def s36F : List A → Option (Bool × A)
  | [.agg [.ro 3 n (.vecs .f32 x y z), .bool cl, .flt .f32 cur], .flt .f32 t] => some (Nat.ble n 4611686018427387000 && !spinOk n cur x y z t, .tup [.agg [.emp, .bool false, .flt .f32 0], .bool false])
  | _ => none
theorem s36F_at : EnvAt Try.prog 36 s36F := of_autoS cfgS_ok lp36F_ok Try.func36 (by kernel_rfl) (by kernel_rfl) fun ds cc rr h hc => by
  unfold s36F at h
  split at h
  · rename_i n x y z cl cur t
    simp only [Option.some.injEq, Prod.mk.injEq] at h
    obtain ⟨rfl, rfl⟩ := h
    refine auto_fit (auto36F n cur x y z cl t) ?_ ?_
    · simp only [Bool.cond_self]
    · simp only [Bool.and_eq_true] at hc
      have hn := hc.1
      have hc := hc.2
      show (n.ble 4611686018427387000 && bif bif !okW n cur x y z then true else !fin t then true else decide (0 < n) && decide (n ≤ 1073741824) && true && (n.beq n && n.ble 1073741824 && (n.ble 4611686018427387000 && (!okW n cur (spX (cT t) (sT t) x y) (spY (cT t) (sT t) x y) z && true)))) = true
      rw [hn]
      cases hA : okW n cur x y z
      · rfl
      · cases hB : fin t
        · rfl
        · unfold spinOk at hc
          rw [hA, hB] at hc
          have hC : okW n cur (spX (cT t) (sT t) x y) (spY (cT t) (sT t) x y) z = false := by simpa using hc
          have h5 := okW_n hA
          rw [hC, ble_of (show n ≤ 1073741824 by omega), decide_eq_true (show 0 < n by omega), decide_eq_true (show n ≤ 1073741824 by omega), Nat.beq_refl]; rfl
  · cases h

end Go.Fw.W1

/-
  A wire that is turned: the program's point.
-/
namespace Go.Fw.W1
open Go.Proofs
theorem auto96 (x y z c s : Nat) : autoLp cfg34 (fun _ => none) Try.f96 [.agg [.flt .f32 x, .flt .f32 y, .flt .f32 z], .rop (.agg [.flt .f32 c]) 0, .rop (.agg [.flt .f32 s]) 0] =
    some (true, A.agg [A.flt FloatKind.f32 (fop BinOp.sub FloatKind.f32 (fop BinOp.mul FloatKind.f32 c x) (fop BinOp.mul FloatKind.f32 s y)), A.flt FloatKind.f32 (fop BinOp.add FloatKind.f32 (fop BinOp.mul FloatKind.f32 s x) (fop BinOp.mul FloatKind.f32 c y)), A.flt FloatKind.f32 z]) := by kernel_rfl
noncomputable def s96 : List A → Option (Bool × A)
  | [.agg [.flt .f32 x, .flt .f32 y, .flt .f32 z], .rop (.agg [.flt .f32 c]) 0, .rop (.agg [.flt .f32 s]) 0] => some (true, .agg [.flt .f32 (fop .sub .f32 (fop .mul .f32 c x) (fop .mul .f32 s y)), .flt .f32 (fop .add .f32 (fop .mul .f32 s x) (fop .mul .f32 c y)), .flt .f32 z])
  | _ => none
theorem s96_at : EnvAt Try.prog 96 s96 := of_auto cfg34_ok (lp_none _) Try.func96 (by kernel_rfl) (by kernel_rfl) fun ds cc rr h hc => by
  unfold s96 at h
  split at h
  · rename_i x y z c s
    simp only [Option.some.injEq, Prod.mk.injEq] at h
    obtain ⟨rfl, rfl⟩ := h
    refine auto_fit (auto96 x y z c s) ?_ ?_
    · rfl
    · rfl
  · cases h

noncomputable def env39 : List (Nat × (List A → Option (Bool × A))) := (96, s96) :: env35
theorem env39_ok : EnvOK Try.prog (look env39) := (env_cons s96_at env35_ok)
noncomputable def cfg39 : Cfg := mkCfg tab [] xts (look env39)
theorem cfg39_ok : CfgOK Try.prog cfg39 := cfg_ok tab_eq (no_fts _) xts_ok env39_ok mixed
noncomputable def cfgGN : Cfg := mkCfg (nilTab tab) fts75 xts (look env39)
theorem cfgGN_ok : CfgOK Try.prog cfgGN := cfgN_ok' tab_eq fts75_ok xts_ok env39_ok mixed
end Go.Fw.W1

/-
  A wire that is turned: the program.
-/
namespace Go.Fw.W1
open Go.Proofs
noncomputable def I95 (n cur c s : Nat) (x y z : Nat → Nat) (cl : Bool) (k : Nat) : List A := [.fn 96 [.rop (.agg [.flt .f32 c]) 0, .rop (.agg [.flt .f32 s]) 0], .ro 3 n (.vecs .f32 x y z), .int .i64 (Int.ofNat n), .int .i64 (Int.ofNat k), .ptr 176 0, .ptr 16 0, .bool false]
noncomputable def J95 (n cur c s : Nat) (x y z : Nat → Nat) (cl : Bool) (k : Nat) : List O := [.var [.sl 272 k, .bool cl, .flt .f32 cur], .row 59 3 k (.vecs .f32 (spX c s x y) (spY c s x y) z), .var [.nils, .bool false, .flt .f32 0]]
theorem round95 (n cur c s : Nat) (x y z : Nat → Nat) (cl : Bool) (k : Nat) (L : XK → List A → List (Option O) → Prop) :
    ((exec cfgGN (fun _ => true) (fun _ => none) 0 1000 (loopOf Try.f95 0) (litSt Try.f95.ntmps 288 [1, 19, 20, 21, 6, 4, 5] [176, 272, 16] (I95 n cur c s x y z cl k) (J95 n cur c s x y z cl k))).rt [1, 19, 20, 21, 6, 4, 5] [176, 272, 16]).Ok L =
    bif decide (Int.ofNat k < Int.ofNat n) then 
       bif decide (Int.ofNat k < Int.ofNat n) then 
         bif decide (k + 1 ≤ 1073741824) then 
           L (XK.normal) ([A.fn 96 [(A.agg [A.flt FloatKind.f32 c]).rop 0, (A.agg [A.flt FloatKind.f32 s]).rop 0], A.ro 3 n (Row.vecs FloatKind.f32 x y z), A.int IntKind.i64 (Int.ofNat n), A.int IntKind.i64 (IntKind.i64.wrap (Int.ofNat k + Int.ofNat 1)), A.ptr 176 0, A.ptr 16 0, A.bool false]) ([some (O.var [A.sl 272 (k + 1), A.bool cl, A.flt FloatKind.f32 cur]),   some     (O.row 59 3 (k + 1)       (Row.vecs FloatKind.f32         (fun j =>           (match decide (j < k) with | true => spX c s x y j | false => ([[fop BinOp.sub FloatKind.f32 (fop BinOp.mul FloatKind.f32 c (x k)) (fop BinOp.mul FloatKind.f32 s (y k)), fop BinOp.add FloatKind.f32 (fop BinOp.mul FloatKind.f32 s (x k)) (fop BinOp.mul FloatKind.f32 c (y k)), z k]].getD (j - k) []).getD 0 0))         (fun j =>           (match decide (j < k) with | true => spY c s x y j | false => ([[fop BinOp.sub FloatKind.f32 (fop BinOp.mul FloatKind.f32 c (x k)) (fop BinOp.mul FloatKind.f32 s (y k)), fop BinOp.add FloatKind.f32 (fop BinOp.mul FloatKind.f32 s (x k)) (fop BinOp.mul FloatKind.f32 c (y k)), z k]].getD (j - k) []).getD 1 0))         fun j =>         (match decide (j < k) with | true => z j | false => ([[fop BinOp.sub FloatKind.f32 (fop BinOp.mul FloatKind.f32 c (x k)) (fop BinOp.mul FloatKind.f32 s (y k)), fop BinOp.add FloatKind.f32 (fop BinOp.mul FloatKind.f32 s (x k)) (fop BinOp.mul FloatKind.f32 c (y k)), z k]].getD (j - k) []).getD 2 0))),   some (O.var [A.nils, A.bool false, A.flt FloatKind.f32 0])]) 
         else 
           False 
       else 
         False 
     else 
       L (XK.exit 0) ([A.fn 96 [(A.agg [A.flt FloatKind.f32 c]).rop 0, (A.agg [A.flt FloatKind.f32 s]).rop 0], A.ro 3 n (Row.vecs FloatKind.f32 x y z), A.int IntKind.i64 (Int.ofNat n), A.int IntKind.i64 (Int.ofNat k), A.ptr 176 0, A.ptr 16 0, A.bool false]) ([some (O.var [A.sl 272 k, A.bool cl, A.flt FloatKind.f32 cur]), some (O.row 59 3 k (Row.vecs FloatKind.f32 (fun p => spX c s x y p) (fun p => spY c s x y p) z)), some (O.var [A.nils, A.bool false, A.flt FloatKind.f32 0])]) := by kernel_rfl
noncomputable def F95 : List A → List (Option O) → Option R3
  | [.fn 96 [.rop (.agg [.flt .f32 c]) 0, .rop (.agg [.flt .f32 s]) 0], .ro 3 n (.vecs .f32 x y z), .int .i64 l, .int .i64 0, .ptr 176 0, .ptr 16 0, .bool false], [some (.var [.sl 272 0, .bool cl, .flt .f32 cur]), some (.row 59 3 0 g), some (.var [.nils, .bool false, .flt .f32 0])] => some (.ite (decide (l = Int.ofNat n) && Nat.ble n 1000) (.leaf .normal (I95 n cur c s x y z cl (n)) (J95 n cur c s x y z cl (n))) .fail)
  | _, _ => none
theorem loop95 : CodeOK Try.prog (fun _ σ => sumAt Try.f95.ntmps 288 [1, 19, 20, 21, 6, 4, 5] [176, 272, 16] F95 σ) (.block 0 (.loop (loopOf Try.f95 0))) := by
  refine block_ok (own := fun _ => true) (lp := (fun _ => none)) (un := 0) (fuel := 1000) cfgGN_ok (lp_none _) fun az os R hF hok => ?_
  unfold F95 at hF
  split at hF
  · rename_i c s n x y z l cl cur g
    injection hF with hF
    subst hF
    have hg := hok.guard
    have hg' := hg
    simp only [Bool.and_eq_true, Nat.ble_eq, Nat.beq_eq, decide_eq_true_eq] at hg'
    obtain ⟨rfl, hn⟩ := hg'
    refine for_fact (ids := [176, 272, 16]) (fun _ => true) (n) (I95 n cur c s x y z cl) (J95 n cur c s x y z cl) _ (.ret) (I95 n cur c s x y z cl) (I95 n cur c s x y z cl) (I95 n cur c s x y z cl (n)) (J95 n cur c s x y z cl (n)) rfl (by unfold J95; exact ⟨rfl, ⟨59, _, rfl, .inr rfl, fun p hp => absurd hp (by omega)⟩, rfl, trivial⟩) (fun _ => rfl) (fun _ => rfl) (fun _ => ALe.self _) (fun _ => rfl) (ALe.self _) (OSims.self _) rfl (fun h => by cases h) (fun k hk L h1 h2 h3 => ?_) fun L hL => ?_
    · rw [round95]

      by_cases hkm : k < n
      · refine condT (lt_dec hkm) ?_
        rw [wrap_succ (by omega)]
        refine condT (lt_dec hkm) ?_
        refine condT (decide_eq_true (by omega)) ?_
        exact h1 hkm rfl _ ⟨rfl, ⟨59, _, rfl, .inr rfl, fun p hp => vec_at (app3 (u := spX c s x y) rfl hp) (app3 (u := spY c s x y) rfl hp) (app3 (u := z) rfl hp)⟩, rfl, trivial⟩
      · refine condE (ge_dec (by omega)) ?_
        obtain rfl : k = n := by omega
        exact h3 rfl
    · exact ⟨fun _ => hL.1 hg, fun N _ h => by cases h⟩
  · cases hF

noncomputable def N95 : St → T := nilW 176 0 59 3 (sumAt Try.f95.ntmps 288 [1, 19, 20, 21, 6, 4, 5] [176, 272, 16] F95)
theorem loopN95 : CodeOK Try.prog (fun _ σ => N95 σ) (.block 0 (.loop (loopOf Try.f95 0))) := nilW_ok loop95
noncomputable def chgOk (n cur c s : Nat) (x y z : Nat → Nat) : Bool := okW n cur x y z && okW n cur (spX c s x y) (spY c s x y) z
noncomputable def lp95T : List (Nat × (St → T)) := [(0, N95)]
theorem lp95T_ok : LpOK Try.prog (look lp95T) (bodyOf Try.f95) := lp_loops (by kernel_rfl) (by kernel_rfl) fun p hp => by
  simp only [lp95T, List.mem_cons, List.not_mem_nil, or_false] at hp
  rcases hp with rfl
  · exact loopN95
theorem auto95T (n cur : Nat) (x y z : Nat → Nat) (cl : Bool) (c s : Nat) : autoS cfgGN (look lp95T) false Try.f95 [.agg [.ro 3 n (.vecs .f32 x y z), .bool cl, .flt .f32 cur], .fn 96 [.rop (.agg [.flt .f32 c]) 0, .rop (.agg [.flt .f32 s]) 0]] =
    some (n.ble 4611686018427387000 && (!!okW n cur x y z && (decide (Int.ofNat n = Int.ofNat n) && n.ble 1000 && (n.ble 4611686018427387000 && (!!okW n cur (spX c s x y) (spY c s x y) z && true)))), A.tup [A.agg [A.ro 3 n (Row.vecs FloatKind.f32 (fun p => spX c s x y p) (fun p => spY c s x y p) z), A.bool cl, A.flt FloatKind.f32 cur], A.bool true]) := by kernel_rfl
noncomputable def s95T : List A → Option (Bool × A)
  | [.agg [.ro 3 n (.vecs .f32 x y z), .bool cl, .flt .f32 cur], .fn 96 [.rop (.agg [.flt .f32 c]) 0, .rop (.agg [.flt .f32 s]) 0]] => some (chgOk n cur c s x y z, .tup [.agg [.ro 3 n (.vecs .f32 (spX c s x y) (spY c s x y) z), .bool cl, .flt .f32 cur], .bool true])
  | _ => none
theorem s95T_at : EnvAt Try.prog 95 s95T := of_autoS cfgGN_ok lp95T_ok Try.func95 (by kernel_rfl) (by kernel_rfl) fun ds cc rr h hc => by
  unfold s95T at h
  split at h
  · rename_i n x y z cl cur c s
    simp only [Option.some.injEq, Prod.mk.injEq] at h
    obtain ⟨rfl, rfl⟩ := h
    refine auto_fit (auto95T n cur x y z cl c s) ?_ ?_
    · rfl
    · obtain ⟨h1, h2⟩ := (Bool.and_eq_true _ _).mp hc
      have h5 := okW_n h1
      show (n.ble 4611686018427387000 && (!!okW n cur x y z && (decide (Int.ofNat n = Int.ofNat n) && n.ble 1000 && (n.ble 4611686018427387000 && (!!okW n cur (spX c s x y) (spY c s x y) z && true))))) = true
      rw [h1, h2, ble_of (show n ≤ 4611686018427387000 by omega), ble_of (show n ≤ 1000 by omega), decide_eq_true rfl]; rfl
  · cases h

noncomputable def lp95N : List (Nat × (St → T)) := [(0, N95)]
theorem lp95N_ok : LpOK Try.prog (look lp95N) (bodyOf Try.f95) := lp_loops (by kernel_rfl) (by kernel_rfl) fun p hp => by
  simp only [lp95N, List.mem_cons, List.not_mem_nil, or_false] at hp
  rcases hp with rfl
  · exact loopN95
theorem auto95N (n cur : Nat) (x y z : Nat → Nat) (cl : Bool) (c s : Nat) : autoS cfgGN (look lp95N) true Try.f95 [.agg [.ro 3 n (.vecs .f32 x y z), .bool cl, .flt .f32 cur], .fn 96 [.rop (.agg [.flt .f32 c]) 0, .rop (.agg [.flt .f32 s]) 0]] =
    some (n.ble 4611686018427387000 && bif !okW n cur x y z then true else decide (Int.ofNat n = Int.ofNat n) && n.ble 1000 && (n.ble 4611686018427387000 && (!okW n cur (spX c s x y) (spY c s x y) z && true)), A.tup [A.agg [A.nils, A.bool (bif !okW n cur x y z then false else false), A.flt FloatKind.f32 (bif !okW n cur x y z then 0 else 0)], A.bool (bif !okW n cur x y z then false else false)]) := by kernel_rfl
noncomputable def s95N : List A → Option (Bool × A)
  | [.agg [.ro 3 n (.vecs .f32 x y z), .bool cl, .flt .f32 cur], .fn 96 [.rop (.agg [.flt .f32 c]) 0, .rop (.agg [.flt .f32 s]) 0]] => some (Nat.ble n 4611686018427387000 && !chgOk n cur c s x y z, .tup [.agg [.nils, .bool false, .flt .f32 0], .bool false])
  | _ => none
theorem s95N_at : EnvAt Try.prog 95 s95N := of_autoS cfgGN_ok lp95N_ok Try.func95 (by kernel_rfl) (by kernel_rfl) fun ds cc rr h hc => by
  unfold s95N at h
  split at h
  · rename_i n x y z cl cur c s
    simp only [Option.some.injEq, Prod.mk.injEq] at h
    obtain ⟨rfl, rfl⟩ := h
    refine auto_fit (auto95N n cur x y z cl c s) ?_ ?_
    · simp only [Bool.cond_self]
    · simp only [Bool.and_eq_true] at hc
      have hn := hc.1
      have hc := hc.2
      show (n.ble 4611686018427387000 && bif !okW n cur x y z then true else decide (Int.ofNat n = Int.ofNat n) && n.ble 1000 && (n.ble 4611686018427387000 && (!okW n cur (spX c s x y) (spY c s x y) z && true))) = true
      rw [hn]
      cases hA : okW n cur x y z
      · rfl
      · unfold chgOk at hc
        rw [hA] at hc
        have hC : okW n cur (spX c s x y) (spY c s x y) z = false := by simpa using hc
        have h5 := okW_n hA
        rw [hC, ble_of (show n ≤ 1000 by omega), decide_eq_true rfl]; rfl
  · cases h

noncomputable def env40T : List (Nat × (List A → Option (Bool × A))) := (95, s95T) :: env39
theorem env40T_ok : EnvOK Try.prog (look env40T) := (env_cons s95T_at env39_ok)
noncomputable def cfg40T : Cfg := mkCfg tab [] xts (look env40T)
theorem cfg40T_ok : CfgOK Try.prog cfg40T := cfg_ok tab_eq (no_fts _) xts_ok env40T_ok mixed
noncomputable def env40N : List (Nat × (List A → Option (Bool × A))) := (95, s95N) :: env39
theorem env40N_ok : EnvOK Try.prog (look env40N) := (env_cons s95N_at env39_ok)
noncomputable def cfg40N : Cfg := mkCfg tab [] xts (look env40N)
theorem cfg40N_ok : CfgOK Try.prog cfg40N := cfg_ok tab_eq (no_fts _) xts_ok env40N_ok mixed
noncomputable def cfgGT : Cfg := mkCfg (nilTab tab) fts75 xts (look env40T)
theorem cfgGT_ok : CfgOK Try.prog cfgGT := cfgN_ok' tab_eq fts75_ok xts_ok env40T_ok mixed
noncomputable def cfgGNN : Cfg := mkCfg (nilTab tab) fts75 xts (look env40N)
theorem cfgGNN_ok : CfgOK Try.prog cfgGNN := cfgN_ok' tab_eq fts75_ok xts_ok env40N_ok mixed
theorem auto37T (n cur : Nat) (x y z : Nat → Nat) (cl : Bool) (t : Nat) : autoS cfgGT (fun _ => none) false Try.f37 [.agg [.ro 3 n (.vecs .f32 x y z), .bool cl, .flt .f32 cur], .flt .f32 t] =
    some (!!fin t && (chgOk n cur (fcvt FloatKind.f64 FloatKind.f32 (sineW (fcvt FloatKind.f32 FloatKind.f64 (fop BinOp.add FloatKind.f32 t (can FloatKind.f32 1048576000))))) (fcvt FloatKind.f64 FloatKind.f32 (sineW (fcvt FloatKind.f32 FloatKind.f64 t))) x y z && true), A.tup [A.agg [A.ro 3 n (Row.vecs FloatKind.f32 (fun p => spX (fcvt FloatKind.f64 FloatKind.f32 (sineW (fcvt FloatKind.f32 FloatKind.f64 (fop BinOp.add FloatKind.f32 t (can FloatKind.f32 1048576000))))) (fcvt FloatKind.f64 FloatKind.f32 (sineW (fcvt FloatKind.f32 FloatKind.f64 t))) x y p) (fun p => spY (fcvt FloatKind.f64 FloatKind.f32 (sineW (fcvt FloatKind.f32 FloatKind.f64 (fop BinOp.add FloatKind.f32 t (can FloatKind.f32 1048576000))))) (fcvt FloatKind.f64 FloatKind.f32 (sineW (fcvt FloatKind.f32 FloatKind.f64 t))) x y p) z), A.bool cl, A.flt FloatKind.f32 cur], A.bool true]) := by kernel_rfl
noncomputable def s37T : List A → Option (Bool × A)
  | [.agg [.ro 3 n (.vecs .f32 x y z), .bool cl, .flt .f32 cur], .flt .f32 t] => some (spinOk n cur x y z t, .tup [.agg [.ro 3 n (.vecs .f32 (spX (cT t) (sT t) x y) (spY (cT t) (sT t) x y) z), .bool cl, .flt .f32 cur], .bool true])
  | _ => none
theorem s37T_at : EnvAt Try.prog 37 s37T := of_autoS cfgGT_ok (lp_none _) Try.func37 (by kernel_rfl) (by kernel_rfl) fun ds cc rr h hc => by
  unfold s37T at h
  split at h
  · rename_i n x y z cl cur t
    simp only [Option.some.injEq, Prod.mk.injEq] at h
    obtain ⟨rfl, rfl⟩ := h
    refine auto_fit (auto37T n cur x y z cl t) ?_ ?_
    · rfl
    · obtain ⟨h1, h2, h3, h4, h5⟩ := spin_ok hc
      show (!!fin t && (chgOk n cur (cT t) (sT t) x y z && true)) = true
      unfold chgOk
      rw [h1, h2, h3]; rfl
  · cases h

theorem auto37N (n cur : Nat) (x y z : Nat → Nat) (cl : Bool) (t : Nat) : autoS cfgGNN (fun _ => none) true Try.f37 [.agg [.ro 3 n (.vecs .f32 x y z), .bool cl, .flt .f32 cur], .flt .f32 t] =
    some (bif !fin t then true else n.ble 4611686018427387000 && !chgOk n cur (fcvt FloatKind.f64 FloatKind.f32 (sineW (fcvt FloatKind.f32 FloatKind.f64 (fop BinOp.add FloatKind.f32 t (can FloatKind.f32 1048576000))))) (fcvt FloatKind.f64 FloatKind.f32 (sineW (fcvt FloatKind.f32 FloatKind.f64 t))) x y z && true, A.tup [A.agg [A.nils, A.bool (bif !fin t then false else false), A.flt FloatKind.f32 (bif !fin t then 0 else 0)], A.bool (bif !fin t then false else false)]) := by kernel_rfl
noncomputable def s37N : List A → Option (Bool × A)
  | [.agg [.ro 3 n (.vecs .f32 x y z), .bool cl, .flt .f32 cur], .flt .f32 t] => some (Nat.ble n 4611686018427387000 && !spinOk n cur x y z t, .tup [.agg [.nils, .bool false, .flt .f32 0], .bool false])
  | _ => none
theorem s37N_at : EnvAt Try.prog 37 s37N := of_autoS cfgGNN_ok (lp_none _) Try.func37 (by kernel_rfl) (by kernel_rfl) fun ds cc rr h hc => by
  unfold s37N at h
  split at h
  · rename_i n x y z cl cur t
    simp only [Option.some.injEq, Prod.mk.injEq] at h
    obtain ⟨rfl, rfl⟩ := h
    refine auto_fit (auto37N n cur x y z cl t) ?_ ?_
    · simp only [Bool.cond_self]
    · simp only [Bool.and_eq_true] at hc
      have hn := hc.1
      have hc := hc.2
      show (bif !fin t then true else n.ble 4611686018427387000 && !chgOk n cur (cT t) (sT t) x y z && true) = true
      rw [hn]
      unfold spinOk at hc
      unfold chgOk
      revert hc
      cases fin t <;> cases okW n cur x y z <;> cases okW n cur (spX (cT t) (sT t) x y) (spY (cT t) (sT t) x y) z <;> simp
  · cases h

noncomputable def s37F : List A → Option (Bool × A)
  | [.agg [.ro 3 n (.vecs .f32 x y z), .bool _, .flt .f32 cur], .flt .f32 t] => some (Nat.ble n 4611686018427387000 && !spinOk n cur x y z t, .tup [.agg [.emp, .bool false, .flt .f32 0], .bool false])
  | _ => none
theorem s37F_at : EnvAt Try.prog 37 s37F := by
  refine ⟨s37N_at.1, fun ds c r h hc => ?_⟩
  unfold s37F at h
  split at h
  · rename_i n x y z cl cur t
    simp only [Option.some.injEq, Prod.mk.injEq] at h
    obtain ⟨rfl, rfl⟩ := h
    exact (s37N_at.2 [.agg [.ro 3 n (.vecs .f32 x y z), .bool cl, .flt .f32 cur], .flt .f32 t] _ _ rfl hc).emp_of
  · cases h
end Go.Fw.W1

/-
  A turned wire's law: tables.
-/
namespace Go.Fw.W1
open Go.Proofs
noncomputable def orS (s1 s2 : List A → Option (Bool × A)) (ds : List A) : Option (Bool × A) := match s1 ds with
  | some r => some r
  | none => s2 ds
theorem orS_at {f : Nat} {s1 s2 : List A → Option (Bool × A)} (h1 : EnvAt Try.prog f s1) (h2 : EnvAt Try.prog f s2) : EnvAt Try.prog f (orS s1 s2) := by
  refine ⟨h1.1, fun ds c r h hc => ?_⟩
  unfold orS at h
  cases e : s1 ds with
  | some r' => rw [e] at h; exact h1.2 ds c r (by rw [e]; exact h) hc
  | none => rw [e] at h; exact h2.2 ds c r h hc
noncomputable def s27e : List A → Option (Bool × A)
  | [.agg [.emp, .bool a, .flt .f32 x], .agg [.emp, .bool b, .flt .f32 y]] => auto cfg38 Try.f27 [.agg [.emp, .bool a, .flt .f32 x], .agg [.emp, .bool b, .flt .f32 y]]
  | _ => none
theorem s27e_at : EnvAt Try.prog 27 s27e := by
  have h0 := auto_at cfg38_ok Try.func27 (by kernel_rfl) (by kernel_rfl)
  refine ⟨h0.1, fun ds c r h hc => ?_⟩
  unfold s27e at h
  split at h
  · exact h0.2 _ _ _ h hc
  · cases h
noncomputable def s29e : List A → Option (Bool × A)
  | [.agg [.emp, .bool a, .flt .f32 x], .int .i64 k] => auto cfg38 Try.f29 [.agg [.emp, .bool a, .flt .f32 x], .int .i64 k]
  | _ => none
theorem s29e_at : EnvAt Try.prog 29 s29e := by
  have h0 := auto_at cfg38_ok Try.func29 (by kernel_rfl) (by kernel_rfl)
  refine ⟨h0.1, fun ds c r h hc => ?_⟩
  unfold s29e at h
  split at h
  · exact h0.2 _ _ _ h hc
  · cases h
noncomputable def envNB : List (Nat × (List A → Option (Bool × A))) := (27, orS s27e s27) :: (29, orS s29e s29) :: env37
theorem envNB_ok : EnvOK Try.prog (look envNB) := env_cons (orS_at s27e_at s27_at) (env_cons (orS_at s29e_at s29_at) env37_ok)
noncomputable def envSpinT : List (Nat × (List A → Option (Bool × A))) := (36, s36T) :: (37, s37T) :: env37
theorem envSpinT_ok : EnvOK Try.prog (look envSpinT) := env_cons s36T_at (env_cons s37T_at env37_ok)
noncomputable def envSpinN : List (Nat × (List A → Option (Bool × A))) := (36, s36F) :: (37, s37F) :: envNB
theorem envSpinN_ok : EnvOK Try.prog (look envSpinN) := env_cons s36F_at (env_cons s37F_at envNB_ok)
end Go.Fw.W1

/-
  A turned wire's law: the walks.
-/
namespace Go.Fw.W1
open Go.Proofs
theorem roundV320 (m k0 k e lo nx : Nat) (x y z : Nat → Nat) (M : List (Nat × O)) (L : XK → List A → List (Nat × O) → Prop) :
    ((exec cfg37 (fun _ => true) (fun _ => none) 0 1000 (loopOf Try.f82 0) (stM Try.f82.ntmps lo nx [0, 1, 4, 5] (IVg 320 m k0 k) 320 (.row e 3 m (.vecs .f32 x y z)) M)).rm [0, 1, 4, 5]).Ok L = RVg 320 m k0 k e x y z M L := by kernel_rfl
theorem loopV320 : CodeOK Try.prog (fun _ σ => sumM Try.f82.ntmps [0, 1, 4, 5] 320 (FVg 320) σ) (.block 0 (.loop (loopOf Try.f82 0))) :=
  sumM_ok (own := fun _ => true) (lp := fun _ => none) (un := 0) (fuel := 1000) cfg37_ok (lp_none _) (markVH 320 fun m k0 k e lo nx x y z M L => roundV320 m k0 k e lo nx x y z M L)

theorem roundV400 (m k0 k e lo nx : Nat) (x y z : Nat → Nat) (M : List (Nat × O)) (L : XK → List A → List (Nat × O) → Prop) :
    ((exec cfg37 (fun _ => true) (fun _ => none) 0 1000 (loopOf Try.f82 0) (stM Try.f82.ntmps lo nx [0, 1, 4, 5] (IVg 400 m k0 k) 400 (.row e 3 m (.vecs .f32 x y z)) M)).rm [0, 1, 4, 5]).Ok L = RVg 400 m k0 k e x y z M L := by kernel_rfl
theorem loopV400 : CodeOK Try.prog (fun _ σ => sumM Try.f82.ntmps [0, 1, 4, 5] 400 (FVg 400) σ) (.block 0 (.loop (loopOf Try.f82 0))) :=
  sumM_ok (own := fun _ => true) (lp := fun _ => none) (un := 0) (fuel := 1000) cfg37_ok (lp_none _) (markVH 400 fun m k0 k e lo nx x y z M L => roundV400 m k0 k e lo nx x y z M L)

noncomputable def lpSpin : List (Nat × (St → T)) := lpVg [320, 400]
theorem lpSpin_ok : LpOK Try.prog (look lpSpin) (bodyOf Try.f82) := lpVg_ok fun i hi => by
  simp only [List.mem_cons, List.not_mem_nil, or_false] at hi
  rcases hi with rfl | rfl
  · exact loopV320
  · exact loopV400
theorem spinT (n cur : Nat) (x y z : Nat → Nat) (cl : Bool) (t : Nat) : autoLp (cfgVg lpSpin envSpinT) (fun _ => none) Try.f8 [.agg [.ro 3 n (.vecs .f32 x y z), .bool cl, .flt .f32 cur], .flt .f32 t] =
    some (bif decide (sz1 1048576 n < 0) then true else n.ble 1073741824 && (spinOk n cur x y z t && (n.ble 1073741824 && (spinOk n cur x y z t && (n.beq n && n.ble 1048576 && allUpTo (sameVAt (spX (cT t) (sT t) x y) (spY (cT t) (sT t) x y) z (spX (cT t) (sT t) x y) (spY (cT t) (sT t) x y) z) n && cl == cl && sameF (fcvt FloatKind.f32 FloatKind.f64 cur) (fcvt FloatKind.f32 FloatKind.f64 cur) && (n.ble 1073741824 && true && (n.beq n && n.ble 1048576 && allUpTo (sameVAt x y z x y z) n && cl == cl && sameF (fcvt FloatKind.f32 FloatKind.f64 cur) (fcvt FloatKind.f32 FloatKind.f64 cur) && (n.beq n && n.ble 1048577 && true && ((n.beq n && n.ble 1048576 && allUpTo (sameVAt (spX (cT t) (sT t) x y) (spY (cT t) (sT t) x y) z (spX (cT t) (sT t) x y) (spY (cT t) (sT t) x y) z) n && cl == cl && sameF (fcvt FloatKind.f32 FloatKind.f64 cur) (fcvt FloatKind.f32 FloatKind.f64 cur) || false) && (n.beq n && n.ble 1048577 && true && (n.ble 1048577 && true && allUpTo (heldV (fun j => mk3 1 j 0) (fun j => mk3 1 j 1) (fun j => mk3 1 j 2) 1) n && bif Int.ofNat (1 + 3 * n) != Int.ofNat (1 + 3 * n) then true else n.ble 1073741824 && (spinOk n cur x y z t && (n.beq n && n.ble 1048576 && allUpTo (sameVAt (spX (cT t) (sT t) x y) (spY (cT t) (sT t) x y) z (spX (cT t) (sT t) x y) (spY (cT t) (sT t) x y) z) n && cl == cl && sameF (fcvt FloatKind.f32 FloatKind.f64 cur) (fcvt FloatKind.f32 FloatKind.f64 cur) && (n.ble 1048577 && true && allUpTo (heldV (fun j => mk3 1 j 0) (fun j => mk3 1 j 1) (fun j => mk3 1 j 2) 1) n && bif Int.ofNat (1 + 3 * n) != Int.ofNat (1 + 3 * n) then true else true))))))))))))), A.bool (bif decide (sz1 1048576 n < 0) then true else bif Int.ofNat (1 + 3 * n) != Int.ofNat (1 + 3 * n) then false else bif Int.ofNat (1 + 3 * n) != Int.ofNat (1 + 3 * n) then false else true)) := by kernel_rfl
theorem spinN (n cur : Nat) (x y z : Nat → Nat) (cl : Bool) (t : Nat) : autoLp (cfgVg lpSpin envSpinN) (fun _ => none) Try.f8 [.agg [.ro 3 n (.vecs .f32 x y z), .bool cl, .flt .f32 cur], .flt .f32 t] =
    some (bif decide (sz1 1048576 n < 0) then true else n.ble 1073741824 && (n.ble 4611686018427387000 && !spinOk n cur x y z t && (n.ble 1073741824 && (n.ble 4611686018427387000 && !spinOk n cur x y z t && ((bif !sameF (fcvt FloatKind.f32 FloatKind.f64 0) (fcvt FloatKind.f32 FloatKind.f64 0) then true else true) && bif bif !bif !sameF (fcvt FloatKind.f32 FloatKind.f64 0) (fcvt FloatKind.f32 FloatKind.f64 0) then false else true then true else false then true else n.ble 1073741824 && true && (n.beq n && n.ble 1048576 && allUpTo (sameVAt x y z x y z) n && cl == cl && sameF (fcvt FloatKind.f32 FloatKind.f64 cur) (fcvt FloatKind.f32 FloatKind.f64 cur) && (n.beq n && n.ble 1048577 && true && (((bif !sameF (fcvt FloatKind.f32 FloatKind.f64 0) (fcvt FloatKind.f32 FloatKind.f64 0) then true else true) || false) && bif bif !bif !sameF (fcvt FloatKind.f32 FloatKind.f64 0) (fcvt FloatKind.f32 FloatKind.f64 0) then false else true then true else false then true else bif decide ((bif decide (1 < 0) then -1 else 1) < 0) then true else bif Int.ofNat 1 != Int.ofNat 1 then true else n.ble 1073741824 && (n.ble 4611686018427387000 && !spinOk n cur x y z t && ((bif !sameF (fcvt FloatKind.f32 FloatKind.f64 0) (fcvt FloatKind.f32 FloatKind.f64 0) then true else true) && bif bif !bif !sameF (fcvt FloatKind.f32 FloatKind.f64 0) (fcvt FloatKind.f32 FloatKind.f64 0) then false else true then true else false then true else bif decide ((bif decide (1 < 0) then -1 else 1) < 0) then true else bif Int.ofNat 1 != Int.ofNat 1 then true else true))))))))), A.bool (bif decide (sz1 1048576 n < 0) then true else bif bif !bif !sameF (fcvt FloatKind.f32 FloatKind.f64 0) (fcvt FloatKind.f32 FloatKind.f64 0) then false else true then true else false then false else bif bif !bif !sameF (fcvt FloatKind.f32 FloatKind.f64 0) (fcvt FloatKind.f32 FloatKind.f64 0) then false else true then true else false then false else bif decide ((bif decide (1 < 0) then -1 else 1) < 0) then false else bif Int.ofNat 1 != Int.ofNat 1 then false else bif bif !bif !sameF (fcvt FloatKind.f32 FloatKind.f64 0) (fcvt FloatKind.f32 FloatKind.f64 0) then false else true then true else false then false else bif decide ((bif decide (1 < 0) then -1 else 1) < 0) then false else bif Int.ofNat 1 != Int.ofNat 1 then false else true)) := by kernel_rfl
end Go.Fw.W1

/-
  A turned wire's law: its answer.
-/
namespace Go.Fw.W1
open Go.Proofs
theorem law8 {a b : A} (ha : WireA a) (hb : FltA b) : PureCall Try.prog 8 [a, b] (.bool true) := by
  obtain ⟨n, x, y, z, cl, cur, hn, rfl⟩ := ha
  obtain ⟨t, _, rfl⟩ := hb
  have keyT := (auto_at (cfgVg_ok lpSpin_ok envSpinT_ok) Try.func8 (by kernel_rfl) (by kernel_rfl)).2 _ _ _ (spinT n cur x y z cl t)
  have keyF := (auto_at (cfgVg_ok lpSpin_ok envSpinN_ok) Try.func8 (by kernel_rfl) (by kernel_rfl)).2 _ _ _ (spinN n cur x y z cl t)
  have e2 : ∀ (x y z : Nat → Nat) k, allUpTo (sameVAt x y z x y z) k = true := fun x y z => allUpTo_all (sameVAt_self _ _ _)
  rcases sz1_le (left := 1048576) (n := n) (by omega) (by omega) hn with ⟨e, h1⟩ | ⟨e, h1⟩
  · rw [e] at keyT; exact keyT rfl
  · have h2 : n ≤ 1048576 := by omega
    rw [e, decide_eq_false (p := (1048576 : Int) - (n : Int) < 0) (by omega)] at keyT keyF
    cases hr : spinOk n cur x y z t
    · rw [hr] at keyF
      simp only [e2, sameF_self, bne_self_eq_false, beq_self_eq_true, Nat.beq_refl, Bool.cond_self, Bool.not_true, Bool.not_false, cond_false, cond_true, Bool.and_true, Bool.true_and, Bool.true_or, ble_of (show n ≤ 1073741824 by omega), ble_of (show n ≤ 4611686018427387000 by omega), ble_of (show n ≤ 1048576 by omega), ble_of (show n ≤ 1048577 by omega)] at keyF
      exact keyF (by decide)
    · obtain ⟨_, _, _, h4, h5⟩ := spin_ok hr
      have e1 : ∀ m, allUpTo (heldV (fun j => mk3 1 j 0) (fun j => mk3 1 j 1) (fun j => mk3 1 j 2) 1) m = true := allUpTo_all (heldV_mk 1)
      rw [hr] at keyT
      simp only [e1, e2, sameF_self, bne_self_eq_false, beq_self_eq_true, Nat.beq_refl, Bool.cond_self, Bool.not_true, cond_false, cond_true, Bool.and_true, Bool.true_and, Bool.true_or, ble_of (show n ≤ 1073741824 by omega), ble_of (show n ≤ 4611686018427387000 by omega), ble_of (show n ≤ 1048576 by omega), ble_of (show n ≤ 1048577 by omega)] at keyT
      exact keyT trivial
end Go.Fw.W1

/-
  Wires that are moved: tables.
-/
namespace Go.Fw.W1
open Go.Proofs
theorem auto140 (x y z a b c : Nat) : autoLp cfg35 (fun _ => none) Try.f140 [.agg [.flt .f32 x, .flt .f32 y, .flt .f32 z], .rop (.agg [.flt .f32 a, .flt .f32 b, .flt .f32 c]) 0] =
    some (true, A.agg [A.flt FloatKind.f32 (fop BinOp.add FloatKind.f32 x a), A.flt FloatKind.f32 (fop BinOp.add FloatKind.f32 y b), A.flt FloatKind.f32 (fop BinOp.add FloatKind.f32 z c)]) := by kernel_rfl
noncomputable def s140 : List A → Option (Bool × A)
  | [.agg [.flt .f32 x, .flt .f32 y, .flt .f32 z], .rop (.agg [.flt .f32 a, .flt .f32 b, .flt .f32 c]) 0] => some (true, .agg [.flt .f32 (fop .add .f32 x a), .flt .f32 (fop .add .f32 y b), .flt .f32 (fop .add .f32 z c)])
  | _ => none
theorem s140_at : EnvAt Try.prog 140 s140 := of_auto cfg35_ok (lp_none _) Try.func140 (by kernel_rfl) (by kernel_rfl) fun ds cc rr h hc => by
  unfold s140 at h
  split at h
  · rename_i x y z a b c
    simp only [Option.some.injEq, Prod.mk.injEq] at h
    obtain ⟨rfl, rfl⟩ := h
    refine auto_fit (auto140 x y z a b c) ?_ ?_
    · rfl
    · rfl
  · cases h

noncomputable def env41 : List (Nat × (List A → Option (Bool × A))) := (140, s140) :: env35
theorem env41_ok : EnvOK Try.prog (look env41) := (env_cons s140_at env35_ok)
noncomputable def cfg41 : Cfg := mkCfg tab [] xts (look env41)
theorem cfg41_ok : CfgOK Try.prog cfg41 := cfg_ok tab_eq (no_fts _) xts_ok env41_ok mixed
noncomputable def cfgMN : Cfg := mkCfg (nilTab tab) fts75 xts (look env41)
theorem cfgMN_ok : CfgOK Try.prog cfgMN := cfgN_ok' tab_eq fts75_ok xts_ok env41_ok mixed
end Go.Fw.W1
