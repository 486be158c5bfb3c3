/-
  The sine of turns: contracts.
-/
import Derived.Test.YtlehhjphmenfbaaLpA
import Derived.Test.YtlehhjphmenfbaaFwC
import Derived.Test.YtlehhjphmenfbaaFwD

namespace Go.Fw.E1
open Go.Proofs
theorem can0' : can .f32 0 = 0 := by decide +kernel
theorem fin_num (x : Nat) : fin x = num .f32 x := by
  unfold fin
  rw [can0', num_sub]
  cases num .f32 x <;> rfl
theorem big_absN {x : Nat} (h : num .f64 x = true) : geF (absN x) c52 = bigF x := by
  obtain ⟨s, m, i, hy⟩ := num_iff.1 h
  have := (big_abs hy).1
  rw [sw64] at this
  exact this
noncomputable def lp80 : List (Nat × (St → T)) := [(0, N80)]
theorem lp80_ok : LpOK Try.prog (look lp80) (bodyOf Try.f74) := lp_loops (by kernel_rfl) (by kernel_rfl) fun p hp => by
  simp only [lp80, List.mem_cons, List.not_mem_nil, or_false] at hp
  rcases hp with rfl
  · exact loopN80
theorem auto80 (x : Nat) : autoLp cfg31 (look lp80) Try.f74 [.flt .f32 x] =
    some (bif !fin x then true else !isNaN .f64 (fcvt .f32 .f64 x) && bif forder .f64 (absN (fcvt .f32 .f64 x)) (can .f64 4841369599423283200) == some Ordering.gt || forder .f64 (absN (fcvt .f32 .f64 x)) (can .f64 4841369599423283200) == some Ordering.eq then true else ftoIntOk .f64 (fcvt .f32 .f64 x) IntKind.i64 && bif forder .f64 (fop .sub .f64 (fcvt .f32 .f64 x) (fofInt .f64 (ftoInt .f64 (fcvt .f32 .f64 x) IntKind.i64))) (can .f64 0) == some Ordering.lt then bif forder .f64 (fop .add .f64 (fop .sub .f64 (fcvt .f32 .f64 x) (fofInt .f64 (ftoInt .f64 (fcvt .f32 .f64 x) IntKind.i64))) (can .f64 4607182418800017408)) (can .f64 4602678819172646912) == some Ordering.gt || forder .f64 (fop .add .f64 (fop .sub .f64 (fcvt .f32 .f64 x) (fofInt .f64 (ftoInt .f64 (fcvt .f32 .f64 x) IntKind.i64))) (can .f64 4607182418800017408)) (can .f64 4602678819172646912) == some Ordering.eq then bif forder .f64 (fop .sub .f64 (fop .add .f64 (fop .sub .f64 (fcvt .f32 .f64 x) (fofInt .f64 (ftoInt .f64 (fcvt .f32 .f64 x) IntKind.i64))) (can .f64 4607182418800017408)) (can .f64 4602678819172646912)) (can .f64 4598175219545276416) == some Ordering.gt then (can .f64 4607182418800017408).beq (sp (fop .mul .f64 (fop .mul .f64 (fop .sub .f64 (can .f64 4602678819172646912) (fop .sub .f64 (fop .add .f64 (fop .sub .f64 (fcvt .f32 .f64 x) (fofInt .f64 (ftoInt .f64 (fcvt .f32 .f64 x) IntKind.i64))) (can .f64 4607182418800017408)) (can .f64 4602678819172646912))) (can .f64 4618760256179416344)) (fop .mul .f64 (fop .sub .f64 (can .f64 4602678819172646912) (fop .sub .f64 (fop .add .f64 (fop .sub .f64 (fcvt .f32 .f64 x) (fofInt .f64 (ftoInt .f64 (fcvt .f32 .f64 x) IntKind.i64))) (can .f64 4607182418800017408)) (can .f64 4602678819172646912))) (can .f64 4618760256179416344))) 0) && (can .f64 4620693217682128896).beq (kF 0) && bif forder .f64 (fop .add .f64 (fop .sub .f64 (fcvt .f32 .f64 x) (fofInt .f64 (ftoInt .f64 (fcvt .f32 .f64 x) IntKind.i64))) (can .f64 4607182418800017408)) (can .f64 4602678819172646912) == some Ordering.gt || forder .f64 (fop .add .f64 (fop .sub .f64 (fcvt .f32 .f64 x) (fofInt .f64 (ftoInt .f64 (fcvt .f32 .f64 x) IntKind.i64))) (can .f64 4607182418800017408)) (can .f64 4602678819172646912) == some Ordering.eq then fcvtOk .f64 .f32 (fneg .f64 (fop .mul .f64 (fop .mul .f64 (fop .sub .f64 (can .f64 4602678819172646912) (fop .sub .f64 (fop .add .f64 (fop .sub .f64 (fcvt .f32 .f64 x) (fofInt .f64 (ftoInt .f64 (fcvt .f32 .f64 x) IntKind.i64))) (can .f64 4607182418800017408)) (can .f64 4602678819172646912))) (can .f64 4618760256179416344)) (sp (fop .mul .f64 (fop .mul .f64 (fop .sub .f64 (can .f64 4602678819172646912) (fop .sub .f64 (fop .add .f64 (fop .sub .f64 (fcvt .f32 .f64 x) (fofInt .f64 (ftoInt .f64 (fcvt .f32 .f64 x) IntKind.i64))) (can .f64 4607182418800017408)) (can .f64 4602678819172646912))) (can .f64 4618760256179416344)) (fop .mul .f64 (fop .sub .f64 (can .f64 4602678819172646912) (fop .sub .f64 (fop .add .f64 (fop .sub .f64 (fcvt .f32 .f64 x) (fofInt .f64 (ftoInt .f64 (fcvt .f32 .f64 x) IntKind.i64))) (can .f64 4607182418800017408)) (can .f64 4602678819172646912))) (can .f64 4618760256179416344))) 8))) && true else fcvtOk .f64 .f32 (fop .mul .f64 (fop .mul .f64 (fop .sub .f64 (can .f64 4602678819172646912) (fop .sub .f64 (fop .add .f64 (fop .sub .f64 (fcvt .f32 .f64 x) (fofInt .f64 (ftoInt .f64 (fcvt .f32 .f64 x) IntKind.i64))) (can .f64 4607182418800017408)) (can .f64 4602678819172646912))) (can .f64 4618760256179416344)) (sp (fop .mul .f64 (fop .mul .f64 (fop .sub .f64 (can .f64 4602678819172646912) (fop .sub .f64 (fop .add .f64 (fop .sub .f64 (fcvt .f32 .f64 x) (fofInt .f64 (ftoInt .f64 (fcvt .f32 .f64 x) IntKind.i64))) (can .f64 4607182418800017408)) (can .f64 4602678819172646912))) (can .f64 4618760256179416344)) (fop .mul .f64 (fop .sub .f64 (can .f64 4602678819172646912) (fop .sub .f64 (fop .add .f64 (fop .sub .f64 (fcvt .f32 .f64 x) (fofInt .f64 (ftoInt .f64 (fcvt .f32 .f64 x) IntKind.i64))) (can .f64 4607182418800017408)) (can .f64 4602678819172646912))) (can .f64 4618760256179416344))) 8)) && true else (can .f64 4607182418800017408).beq (sp (fop .mul .f64 (fop .mul .f64 (fop .sub .f64 (fop .add .f64 (fop .sub .f64 (fcvt .f32 .f64 x) (fofInt .f64 (ftoInt .f64 (fcvt .f32 .f64 x) IntKind.i64))) (can .f64 4607182418800017408)) (can .f64 4602678819172646912)) (can .f64 4618760256179416344)) (fop .mul .f64 (fop .sub .f64 (fop .add .f64 (fop .sub .f64 (fcvt .f32 .f64 x) (fofInt .f64 (ftoInt .f64 (fcvt .f32 .f64 x) IntKind.i64))) (can .f64 4607182418800017408)) (can .f64 4602678819172646912)) (can .f64 4618760256179416344))) 0) && (can .f64 4620693217682128896).beq (kF 0) && bif forder .f64 (fop .add .f64 (fop .sub .f64 (fcvt .f32 .f64 x) (fofInt .f64 (ftoInt .f64 (fcvt .f32 .f64 x) IntKind.i64))) (can .f64 4607182418800017408)) (can .f64 4602678819172646912) == some Ordering.gt || forder .f64 (fop .add .f64 (fop .sub .f64 (fcvt .f32 .f64 x) (fofInt .f64 (ftoInt .f64 (fcvt .f32 .f64 x) IntKind.i64))) (can .f64 4607182418800017408)) (can .f64 4602678819172646912) == some Ordering.eq then fcvtOk .f64 .f32 (fneg .f64 (fop .mul .f64 (fop .mul .f64 (fop .sub .f64 (fop .add .f64 (fop .sub .f64 (fcvt .f32 .f64 x) (fofInt .f64 (ftoInt .f64 (fcvt .f32 .f64 x) IntKind.i64))) (can .f64 4607182418800017408)) (can .f64 4602678819172646912)) (can .f64 4618760256179416344)) (sp (fop .mul .f64 (fop .mul .f64 (fop .sub .f64 (fop .add .f64 (fop .sub .f64 (fcvt .f32 .f64 x) (fofInt .f64 (ftoInt .f64 (fcvt .f32 .f64 x) IntKind.i64))) (can .f64 4607182418800017408)) (can .f64 4602678819172646912)) (can .f64 4618760256179416344)) (fop .mul .f64 (fop .sub .f64 (fop .add .f64 (fop .sub .f64 (fcvt .f32 .f64 x) (fofInt .f64 (ftoInt .f64 (fcvt .f32 .f64 x) IntKind.i64))) (can .f64 4607182418800017408)) (can .f64 4602678819172646912)) (can .f64 4618760256179416344))) 8))) && true else fcvtOk .f64 .f32 (fop .mul .f64 (fop .mul .f64 (fop .sub .f64 (fop .add .f64 (fop .sub .f64 (fcvt .f32 .f64 x) (fofInt .f64 (ftoInt .f64 (fcvt .f32 .f64 x) IntKind.i64))) (can .f64 4607182418800017408)) (can .f64 4602678819172646912)) (can .f64 4618760256179416344)) (sp (fop .mul .f64 (fop .mul .f64 (fop .sub .f64 (fop .add .f64 (fop .sub .f64 (fcvt .f32 .f64 x) (fofInt .f64 (ftoInt .f64 (fcvt .f32 .f64 x) IntKind.i64))) (can .f64 4607182418800017408)) (can .f64 4602678819172646912)) (can .f64 4618760256179416344)) (fop .mul .f64 (fop .sub .f64 (fop .add .f64 (fop .sub .f64 (fcvt .f32 .f64 x) (fofInt .f64 (ftoInt .f64 (fcvt .f32 .f64 x) IntKind.i64))) (can .f64 4607182418800017408)) (can .f64 4602678819172646912)) (can .f64 4618760256179416344))) 8)) && true else bif forder .f64 (fop .add .f64 (fop .sub .f64 (fcvt .f32 .f64 x) (fofInt .f64 (ftoInt .f64 (fcvt .f32 .f64 x) IntKind.i64))) (can .f64 4607182418800017408)) (can .f64 4598175219545276416) == some Ordering.gt then (can .f64 4607182418800017408).beq (sp (fop .mul .f64 (fop .mul .f64 (fop .sub .f64 (can .f64 4602678819172646912) (fop .add .f64 (fop .sub .f64 (fcvt .f32 .f64 x) (fofInt .f64 (ftoInt .f64 (fcvt .f32 .f64 x) IntKind.i64))) (can .f64 4607182418800017408))) (can .f64 4618760256179416344)) (fop .mul .f64 (fop .sub .f64 (can .f64 4602678819172646912) (fop .add .f64 (fop .sub .f64 (fcvt .f32 .f64 x) (fofInt .f64 (ftoInt .f64 (fcvt .f32 .f64 x) IntKind.i64))) (can .f64 4607182418800017408))) (can .f64 4618760256179416344))) 0) && (can .f64 4620693217682128896).beq (kF 0) && bif forder .f64 (fop .add .f64 (fop .sub .f64 (fcvt .f32 .f64 x) (fofInt .f64 (ftoInt .f64 (fcvt .f32 .f64 x) IntKind.i64))) (can .f64 4607182418800017408)) (can .f64 4602678819172646912) == some Ordering.gt || forder .f64 (fop .add .f64 (fop .sub .f64 (fcvt .f32 .f64 x) (fofInt .f64 (ftoInt .f64 (fcvt .f32 .f64 x) IntKind.i64))) (can .f64 4607182418800017408)) (can .f64 4602678819172646912) == some Ordering.eq then fcvtOk .f64 .f32 (fneg .f64 (fop .mul .f64 (fop .mul .f64 (fop .sub .f64 (can .f64 4602678819172646912) (fop .add .f64 (fop .sub .f64 (fcvt .f32 .f64 x) (fofInt .f64 (ftoInt .f64 (fcvt .f32 .f64 x) IntKind.i64))) (can .f64 4607182418800017408))) (can .f64 4618760256179416344)) (sp (fop .mul .f64 (fop .mul .f64 (fop .sub .f64 (can .f64 4602678819172646912) (fop .add .f64 (fop .sub .f64 (fcvt .f32 .f64 x) (fofInt .f64 (ftoInt .f64 (fcvt .f32 .f64 x) IntKind.i64))) (can .f64 4607182418800017408))) (can .f64 4618760256179416344)) (fop .mul .f64 (fop .sub .f64 (can .f64 4602678819172646912) (fop .add .f64 (fop .sub .f64 (fcvt .f32 .f64 x) (fofInt .f64 (ftoInt .f64 (fcvt .f32 .f64 x) IntKind.i64))) (can .f64 4607182418800017408))) (can .f64 4618760256179416344))) 8))) && true else fcvtOk .f64 .f32 (fop .mul .f64 (fop .mul .f64 (fop .sub .f64 (can .f64 4602678819172646912) (fop .add .f64 (fop .sub .f64 (fcvt .f32 .f64 x) (fofInt .f64 (ftoInt .f64 (fcvt .f32 .f64 x) IntKind.i64))) (can .f64 4607182418800017408))) (can .f64 4618760256179416344)) (sp (fop .mul .f64 (fop .mul .f64 (fop .sub .f64 (can .f64 4602678819172646912) (fop .add .f64 (fop .sub .f64 (fcvt .f32 .f64 x) (fofInt .f64 (ftoInt .f64 (fcvt .f32 .f64 x) IntKind.i64))) (can .f64 4607182418800017408))) (can .f64 4618760256179416344)) (fop .mul .f64 (fop .sub .f64 (can .f64 4602678819172646912) (fop .add .f64 (fop .sub .f64 (fcvt .f32 .f64 x) (fofInt .f64 (ftoInt .f64 (fcvt .f32 .f64 x) IntKind.i64))) (can .f64 4607182418800017408))) (can .f64 4618760256179416344))) 8)) && true else (can .f64 4607182418800017408).beq (sp (fop .mul .f64 (fop .mul .f64 (fop .add .f64 (fop .sub .f64 (fcvt .f32 .f64 x) (fofInt .f64 (ftoInt .f64 (fcvt .f32 .f64 x) IntKind.i64))) (can .f64 4607182418800017408)) (can .f64 4618760256179416344)) (fop .mul .f64 (fop .add .f64 (fop .sub .f64 (fcvt .f32 .f64 x) (fofInt .f64 (ftoInt .f64 (fcvt .f32 .f64 x) IntKind.i64))) (can .f64 4607182418800017408)) (can .f64 4618760256179416344))) 0) && (can .f64 4620693217682128896).beq (kF 0) && bif forder .f64 (fop .add .f64 (fop .sub .f64 (fcvt .f32 .f64 x) (fofInt .f64 (ftoInt .f64 (fcvt .f32 .f64 x) IntKind.i64))) (can .f64 4607182418800017408)) (can .f64 4602678819172646912) == some Ordering.gt || forder .f64 (fop .add .f64 (fop .sub .f64 (fcvt .f32 .f64 x) (fofInt .f64 (ftoInt .f64 (fcvt .f32 .f64 x) IntKind.i64))) (can .f64 4607182418800017408)) (can .f64 4602678819172646912) == some Ordering.eq then fcvtOk .f64 .f32 (fneg .f64 (fop .mul .f64 (fop .mul .f64 (fop .add .f64 (fop .sub .f64 (fcvt .f32 .f64 x) (fofInt .f64 (ftoInt .f64 (fcvt .f32 .f64 x) IntKind.i64))) (can .f64 4607182418800017408)) (can .f64 4618760256179416344)) (sp (fop .mul .f64 (fop .mul .f64 (fop .add .f64 (fop .sub .f64 (fcvt .f32 .f64 x) (fofInt .f64 (ftoInt .f64 (fcvt .f32 .f64 x) IntKind.i64))) (can .f64 4607182418800017408)) (can .f64 4618760256179416344)) (fop .mul .f64 (fop .add .f64 (fop .sub .f64 (fcvt .f32 .f64 x) (fofInt .f64 (ftoInt .f64 (fcvt .f32 .f64 x) IntKind.i64))) (can .f64 4607182418800017408)) (can .f64 4618760256179416344))) 8))) && true else fcvtOk .f64 .f32 (fop .mul .f64 (fop .mul .f64 (fop .add .f64 (fop .sub .f64 (fcvt .f32 .f64 x) (fofInt .f64 (ftoInt .f64 (fcvt .f32 .f64 x) IntKind.i64))) (can .f64 4607182418800017408)) (can .f64 4618760256179416344)) (sp (fop .mul .f64 (fop .mul .f64 (fop .add .f64 (fop .sub .f64 (fcvt .f32 .f64 x) (fofInt .f64 (ftoInt .f64 (fcvt .f32 .f64 x) IntKind.i64))) (can .f64 4607182418800017408)) (can .f64 4618760256179416344)) (fop .mul .f64 (fop .add .f64 (fop .sub .f64 (fcvt .f32 .f64 x) (fofInt .f64 (ftoInt .f64 (fcvt .f32 .f64 x) IntKind.i64))) (can .f64 4607182418800017408)) (can .f64 4618760256179416344))) 8)) && true else bif forder .f64 (fop .sub .f64 (fcvt .f32 .f64 x) (fofInt .f64 (ftoInt .f64 (fcvt .f32 .f64 x) IntKind.i64))) (can .f64 4602678819172646912) == some Ordering.gt || forder .f64 (fop .sub .f64 (fcvt .f32 .f64 x) (fofInt .f64 (ftoInt .f64 (fcvt .f32 .f64 x) IntKind.i64))) (can .f64 4602678819172646912) == some Ordering.eq then bif forder .f64 (fop .sub .f64 (fop .sub .f64 (fcvt .f32 .f64 x) (fofInt .f64 (ftoInt .f64 (fcvt .f32 .f64 x) IntKind.i64))) (can .f64 4602678819172646912)) (can .f64 4598175219545276416) == some Ordering.gt then (can .f64 4607182418800017408).beq (sp (fop .mul .f64 (fop .mul .f64 (fop .sub .f64 (can .f64 4602678819172646912) (fop .sub .f64 (fop .sub .f64 (fcvt .f32 .f64 x) (fofInt .f64 (ftoInt .f64 (fcvt .f32 .f64 x) IntKind.i64))) (can .f64 4602678819172646912))) (can .f64 4618760256179416344)) (fop .mul .f64 (fop .sub .f64 (can .f64 4602678819172646912) (fop .sub .f64 (fop .sub .f64 (fcvt .f32 .f64 x) (fofInt .f64 (ftoInt .f64 (fcvt .f32 .f64 x) IntKind.i64))) (can .f64 4602678819172646912))) (can .f64 4618760256179416344))) 0) && (can .f64 4620693217682128896).beq (kF 0) && bif forder .f64 (fop .sub .f64 (fcvt .f32 .f64 x) (fofInt .f64 (ftoInt .f64 (fcvt .f32 .f64 x) IntKind.i64))) (can .f64 4602678819172646912) == some Ordering.gt || forder .f64 (fop .sub .f64 (fcvt .f32 .f64 x) (fofInt .f64 (ftoInt .f64 (fcvt .f32 .f64 x) IntKind.i64))) (can .f64 4602678819172646912) == some Ordering.eq then fcvtOk .f64 .f32 (fneg .f64 (fop .mul .f64 (fop .mul .f64 (fop .sub .f64 (can .f64 4602678819172646912) (fop .sub .f64 (fop .sub .f64 (fcvt .f32 .f64 x) (fofInt .f64 (ftoInt .f64 (fcvt .f32 .f64 x) IntKind.i64))) (can .f64 4602678819172646912))) (can .f64 4618760256179416344)) (sp (fop .mul .f64 (fop .mul .f64 (fop .sub .f64 (can .f64 4602678819172646912) (fop .sub .f64 (fop .sub .f64 (fcvt .f32 .f64 x) (fofInt .f64 (ftoInt .f64 (fcvt .f32 .f64 x) IntKind.i64))) (can .f64 4602678819172646912))) (can .f64 4618760256179416344)) (fop .mul .f64 (fop .sub .f64 (can .f64 4602678819172646912) (fop .sub .f64 (fop .sub .f64 (fcvt .f32 .f64 x) (fofInt .f64 (ftoInt .f64 (fcvt .f32 .f64 x) IntKind.i64))) (can .f64 4602678819172646912))) (can .f64 4618760256179416344))) 8))) && true else fcvtOk .f64 .f32 (fop .mul .f64 (fop .mul .f64 (fop .sub .f64 (can .f64 4602678819172646912) (fop .sub .f64 (fop .sub .f64 (fcvt .f32 .f64 x) (fofInt .f64 (ftoInt .f64 (fcvt .f32 .f64 x) IntKind.i64))) (can .f64 4602678819172646912))) (can .f64 4618760256179416344)) (sp (fop .mul .f64 (fop .mul .f64 (fop .sub .f64 (can .f64 4602678819172646912) (fop .sub .f64 (fop .sub .f64 (fcvt .f32 .f64 x) (fofInt .f64 (ftoInt .f64 (fcvt .f32 .f64 x) IntKind.i64))) (can .f64 4602678819172646912))) (can .f64 4618760256179416344)) (fop .mul .f64 (fop .sub .f64 (can .f64 4602678819172646912) (fop .sub .f64 (fop .sub .f64 (fcvt .f32 .f64 x) (fofInt .f64 (ftoInt .f64 (fcvt .f32 .f64 x) IntKind.i64))) (can .f64 4602678819172646912))) (can .f64 4618760256179416344))) 8)) && true else (can .f64 4607182418800017408).beq (sp (fop .mul .f64 (fop .mul .f64 (fop .sub .f64 (fop .sub .f64 (fcvt .f32 .f64 x) (fofInt .f64 (ftoInt .f64 (fcvt .f32 .f64 x) IntKind.i64))) (can .f64 4602678819172646912)) (can .f64 4618760256179416344)) (fop .mul .f64 (fop .sub .f64 (fop .sub .f64 (fcvt .f32 .f64 x) (fofInt .f64 (ftoInt .f64 (fcvt .f32 .f64 x) IntKind.i64))) (can .f64 4602678819172646912)) (can .f64 4618760256179416344))) 0) && (can .f64 4620693217682128896).beq (kF 0) && bif forder .f64 (fop .sub .f64 (fcvt .f32 .f64 x) (fofInt .f64 (ftoInt .f64 (fcvt .f32 .f64 x) IntKind.i64))) (can .f64 4602678819172646912) == some Ordering.gt || forder .f64 (fop .sub .f64 (fcvt .f32 .f64 x) (fofInt .f64 (ftoInt .f64 (fcvt .f32 .f64 x) IntKind.i64))) (can .f64 4602678819172646912) == some Ordering.eq then fcvtOk .f64 .f32 (fneg .f64 (fop .mul .f64 (fop .mul .f64 (fop .sub .f64 (fop .sub .f64 (fcvt .f32 .f64 x) (fofInt .f64 (ftoInt .f64 (fcvt .f32 .f64 x) IntKind.i64))) (can .f64 4602678819172646912)) (can .f64 4618760256179416344)) (sp (fop .mul .f64 (fop .mul .f64 (fop .sub .f64 (fop .sub .f64 (fcvt .f32 .f64 x) (fofInt .f64 (ftoInt .f64 (fcvt .f32 .f64 x) IntKind.i64))) (can .f64 4602678819172646912)) (can .f64 4618760256179416344)) (fop .mul .f64 (fop .sub .f64 (fop .sub .f64 (fcvt .f32 .f64 x) (fofInt .f64 (ftoInt .f64 (fcvt .f32 .f64 x) IntKind.i64))) (can .f64 4602678819172646912)) (can .f64 4618760256179416344))) 8))) && true else fcvtOk .f64 .f32 (fop .mul .f64 (fop .mul .f64 (fop .sub .f64 (fop .sub .f64 (fcvt .f32 .f64 x) (fofInt .f64 (ftoInt .f64 (fcvt .f32 .f64 x) IntKind.i64))) (can .f64 4602678819172646912)) (can .f64 4618760256179416344)) (sp (fop .mul .f64 (fop .mul .f64 (fop .sub .f64 (fop .sub .f64 (fcvt .f32 .f64 x) (fofInt .f64 (ftoInt .f64 (fcvt .f32 .f64 x) IntKind.i64))) (can .f64 4602678819172646912)) (can .f64 4618760256179416344)) (fop .mul .f64 (fop .sub .f64 (fop .sub .f64 (fcvt .f32 .f64 x) (fofInt .f64 (ftoInt .f64 (fcvt .f32 .f64 x) IntKind.i64))) (can .f64 4602678819172646912)) (can .f64 4618760256179416344))) 8)) && true else bif forder .f64 (fop .sub .f64 (fcvt .f32 .f64 x) (fofInt .f64 (ftoInt .f64 (fcvt .f32 .f64 x) IntKind.i64))) (can .f64 4598175219545276416) == some Ordering.gt then (can .f64 4607182418800017408).beq (sp (fop .mul .f64 (fop .mul .f64 (fop .sub .f64 (can .f64 4602678819172646912) (fop .sub .f64 (fcvt .f32 .f64 x) (fofInt .f64 (ftoInt .f64 (fcvt .f32 .f64 x) IntKind.i64)))) (can .f64 4618760256179416344)) (fop .mul .f64 (fop .sub .f64 (can .f64 4602678819172646912) (fop .sub .f64 (fcvt .f32 .f64 x) (fofInt .f64 (ftoInt .f64 (fcvt .f32 .f64 x) IntKind.i64)))) (can .f64 4618760256179416344))) 0) && (can .f64 4620693217682128896).beq (kF 0) && bif forder .f64 (fop .sub .f64 (fcvt .f32 .f64 x) (fofInt .f64 (ftoInt .f64 (fcvt .f32 .f64 x) IntKind.i64))) (can .f64 4602678819172646912) == some Ordering.gt || forder .f64 (fop .sub .f64 (fcvt .f32 .f64 x) (fofInt .f64 (ftoInt .f64 (fcvt .f32 .f64 x) IntKind.i64))) (can .f64 4602678819172646912) == some Ordering.eq then fcvtOk .f64 .f32 (fneg .f64 (fop .mul .f64 (fop .mul .f64 (fop .sub .f64 (can .f64 4602678819172646912) (fop .sub .f64 (fcvt .f32 .f64 x) (fofInt .f64 (ftoInt .f64 (fcvt .f32 .f64 x) IntKind.i64)))) (can .f64 4618760256179416344)) (sp (fop .mul .f64 (fop .mul .f64 (fop .sub .f64 (can .f64 4602678819172646912) (fop .sub .f64 (fcvt .f32 .f64 x) (fofInt .f64 (ftoInt .f64 (fcvt .f32 .f64 x) IntKind.i64)))) (can .f64 4618760256179416344)) (fop .mul .f64 (fop .sub .f64 (can .f64 4602678819172646912) (fop .sub .f64 (fcvt .f32 .f64 x) (fofInt .f64 (ftoInt .f64 (fcvt .f32 .f64 x) IntKind.i64)))) (can .f64 4618760256179416344))) 8))) && true else fcvtOk .f64 .f32 (fop .mul .f64 (fop .mul .f64 (fop .sub .f64 (can .f64 4602678819172646912) (fop .sub .f64 (fcvt .f32 .f64 x) (fofInt .f64 (ftoInt .f64 (fcvt .f32 .f64 x) IntKind.i64)))) (can .f64 4618760256179416344)) (sp (fop .mul .f64 (fop .mul .f64 (fop .sub .f64 (can .f64 4602678819172646912) (fop .sub .f64 (fcvt .f32 .f64 x) (fofInt .f64 (ftoInt .f64 (fcvt .f32 .f64 x) IntKind.i64)))) (can .f64 4618760256179416344)) (fop .mul .f64 (fop .sub .f64 (can .f64 4602678819172646912) (fop .sub .f64 (fcvt .f32 .f64 x) (fofInt .f64 (ftoInt .f64 (fcvt .f32 .f64 x) IntKind.i64)))) (can .f64 4618760256179416344))) 8)) && true else (can .f64 4607182418800017408).beq (sp (fop .mul .f64 (fop .mul .f64 (fop .sub .f64 (fcvt .f32 .f64 x) (fofInt .f64 (ftoInt .f64 (fcvt .f32 .f64 x) IntKind.i64))) (can .f64 4618760256179416344)) (fop .mul .f64 (fop .sub .f64 (fcvt .f32 .f64 x) (fofInt .f64 (ftoInt .f64 (fcvt .f32 .f64 x) IntKind.i64))) (can .f64 4618760256179416344))) 0) && (can .f64 4620693217682128896).beq (kF 0) && bif forder .f64 (fop .sub .f64 (fcvt .f32 .f64 x) (fofInt .f64 (ftoInt .f64 (fcvt .f32 .f64 x) IntKind.i64))) (can .f64 4602678819172646912) == some Ordering.gt || forder .f64 (fop .sub .f64 (fcvt .f32 .f64 x) (fofInt .f64 (ftoInt .f64 (fcvt .f32 .f64 x) IntKind.i64))) (can .f64 4602678819172646912) == some Ordering.eq then fcvtOk .f64 .f32 (fneg .f64 (fop .mul .f64 (fop .mul .f64 (fop .sub .f64 (fcvt .f32 .f64 x) (fofInt .f64 (ftoInt .f64 (fcvt .f32 .f64 x) IntKind.i64))) (can .f64 4618760256179416344)) (sp (fop .mul .f64 (fop .mul .f64 (fop .sub .f64 (fcvt .f32 .f64 x) (fofInt .f64 (ftoInt .f64 (fcvt .f32 .f64 x) IntKind.i64))) (can .f64 4618760256179416344)) (fop .mul .f64 (fop .sub .f64 (fcvt .f32 .f64 x) (fofInt .f64 (ftoInt .f64 (fcvt .f32 .f64 x) IntKind.i64))) (can .f64 4618760256179416344))) 8))) && true else fcvtOk .f64 .f32 (fop .mul .f64 (fop .mul .f64 (fop .sub .f64 (fcvt .f32 .f64 x) (fofInt .f64 (ftoInt .f64 (fcvt .f32 .f64 x) IntKind.i64))) (can .f64 4618760256179416344)) (sp (fop .mul .f64 (fop .mul .f64 (fop .sub .f64 (fcvt .f32 .f64 x) (fofInt .f64 (ftoInt .f64 (fcvt .f32 .f64 x) IntKind.i64))) (can .f64 4618760256179416344)) (fop .mul .f64 (fop .sub .f64 (fcvt .f32 .f64 x) (fofInt .f64 (ftoInt .f64 (fcvt .f32 .f64 x) IntKind.i64))) (can .f64 4618760256179416344))) 8)) && true, A.flt .f32 (bif !fin x then qnan .f32 else bif forder .f64 (absN (fcvt .f32 .f64 x)) (can .f64 4841369599423283200) == some Ordering.gt || forder .f64 (absN (fcvt .f32 .f64 x)) (can .f64 4841369599423283200) == some Ordering.eq then can .f32 0 else bif forder .f64 (fop .sub .f64 (fcvt .f32 .f64 x) (fofInt .f64 (ftoInt .f64 (fcvt .f32 .f64 x) IntKind.i64))) (can .f64 0) == some Ordering.lt then bif forder .f64 (fop .add .f64 (fop .sub .f64 (fcvt .f32 .f64 x) (fofInt .f64 (ftoInt .f64 (fcvt .f32 .f64 x) IntKind.i64))) (can .f64 4607182418800017408)) (can .f64 4602678819172646912) == some Ordering.gt || forder .f64 (fop .add .f64 (fop .sub .f64 (fcvt .f32 .f64 x) (fofInt .f64 (ftoInt .f64 (fcvt .f32 .f64 x) IntKind.i64))) (can .f64 4607182418800017408)) (can .f64 4602678819172646912) == some Ordering.eq then bif forder .f64 (fop .sub .f64 (fop .add .f64 (fop .sub .f64 (fcvt .f32 .f64 x) (fofInt .f64 (ftoInt .f64 (fcvt .f32 .f64 x) IntKind.i64))) (can .f64 4607182418800017408)) (can .f64 4602678819172646912)) (can .f64 4598175219545276416) == some Ordering.gt then bif forder .f64 (fop .add .f64 (fop .sub .f64 (fcvt .f32 .f64 x) (fofInt .f64 (ftoInt .f64 (fcvt .f32 .f64 x) IntKind.i64))) (can .f64 4607182418800017408)) (can .f64 4602678819172646912) == some Ordering.gt || forder .f64 (fop .add .f64 (fop .sub .f64 (fcvt .f32 .f64 x) (fofInt .f64 (ftoInt .f64 (fcvt .f32 .f64 x) IntKind.i64))) (can .f64 4607182418800017408)) (can .f64 4602678819172646912) == some Ordering.eq then fcvt .f64 .f32 (fneg .f64 (fop .mul .f64 (fop .mul .f64 (fop .sub .f64 (can .f64 4602678819172646912) (fop .sub .f64 (fop .add .f64 (fop .sub .f64 (fcvt .f32 .f64 x) (fofInt .f64 (ftoInt .f64 (fcvt .f32 .f64 x) IntKind.i64))) (can .f64 4607182418800017408)) (can .f64 4602678819172646912))) (can .f64 4618760256179416344)) (sp (fop .mul .f64 (fop .mul .f64 (fop .sub .f64 (can .f64 4602678819172646912) (fop .sub .f64 (fop .add .f64 (fop .sub .f64 (fcvt .f32 .f64 x) (fofInt .f64 (ftoInt .f64 (fcvt .f32 .f64 x) IntKind.i64))) (can .f64 4607182418800017408)) (can .f64 4602678819172646912))) (can .f64 4618760256179416344)) (fop .mul .f64 (fop .sub .f64 (can .f64 4602678819172646912) (fop .sub .f64 (fop .add .f64 (fop .sub .f64 (fcvt .f32 .f64 x) (fofInt .f64 (ftoInt .f64 (fcvt .f32 .f64 x) IntKind.i64))) (can .f64 4607182418800017408)) (can .f64 4602678819172646912))) (can .f64 4618760256179416344))) 8))) else fcvt .f64 .f32 (fop .mul .f64 (fop .mul .f64 (fop .sub .f64 (can .f64 4602678819172646912) (fop .sub .f64 (fop .add .f64 (fop .sub .f64 (fcvt .f32 .f64 x) (fofInt .f64 (ftoInt .f64 (fcvt .f32 .f64 x) IntKind.i64))) (can .f64 4607182418800017408)) (can .f64 4602678819172646912))) (can .f64 4618760256179416344)) (sp (fop .mul .f64 (fop .mul .f64 (fop .sub .f64 (can .f64 4602678819172646912) (fop .sub .f64 (fop .add .f64 (fop .sub .f64 (fcvt .f32 .f64 x) (fofInt .f64 (ftoInt .f64 (fcvt .f32 .f64 x) IntKind.i64))) (can .f64 4607182418800017408)) (can .f64 4602678819172646912))) (can .f64 4618760256179416344)) (fop .mul .f64 (fop .sub .f64 (can .f64 4602678819172646912) (fop .sub .f64 (fop .add .f64 (fop .sub .f64 (fcvt .f32 .f64 x) (fofInt .f64 (ftoInt .f64 (fcvt .f32 .f64 x) IntKind.i64))) (can .f64 4607182418800017408)) (can .f64 4602678819172646912))) (can .f64 4618760256179416344))) 8)) else bif forder .f64 (fop .add .f64 (fop .sub .f64 (fcvt .f32 .f64 x) (fofInt .f64 (ftoInt .f64 (fcvt .f32 .f64 x) IntKind.i64))) (can .f64 4607182418800017408)) (can .f64 4602678819172646912) == some Ordering.gt || forder .f64 (fop .add .f64 (fop .sub .f64 (fcvt .f32 .f64 x) (fofInt .f64 (ftoInt .f64 (fcvt .f32 .f64 x) IntKind.i64))) (can .f64 4607182418800017408)) (can .f64 4602678819172646912) == some Ordering.eq then fcvt .f64 .f32 (fneg .f64 (fop .mul .f64 (fop .mul .f64 (fop .sub .f64 (fop .add .f64 (fop .sub .f64 (fcvt .f32 .f64 x) (fofInt .f64 (ftoInt .f64 (fcvt .f32 .f64 x) IntKind.i64))) (can .f64 4607182418800017408)) (can .f64 4602678819172646912)) (can .f64 4618760256179416344)) (sp (fop .mul .f64 (fop .mul .f64 (fop .sub .f64 (fop .add .f64 (fop .sub .f64 (fcvt .f32 .f64 x) (fofInt .f64 (ftoInt .f64 (fcvt .f32 .f64 x) IntKind.i64))) (can .f64 4607182418800017408)) (can .f64 4602678819172646912)) (can .f64 4618760256179416344)) (fop .mul .f64 (fop .sub .f64 (fop .add .f64 (fop .sub .f64 (fcvt .f32 .f64 x) (fofInt .f64 (ftoInt .f64 (fcvt .f32 .f64 x) IntKind.i64))) (can .f64 4607182418800017408)) (can .f64 4602678819172646912)) (can .f64 4618760256179416344))) 8))) else fcvt .f64 .f32 (fop .mul .f64 (fop .mul .f64 (fop .sub .f64 (fop .add .f64 (fop .sub .f64 (fcvt .f32 .f64 x) (fofInt .f64 (ftoInt .f64 (fcvt .f32 .f64 x) IntKind.i64))) (can .f64 4607182418800017408)) (can .f64 4602678819172646912)) (can .f64 4618760256179416344)) (sp (fop .mul .f64 (fop .mul .f64 (fop .sub .f64 (fop .add .f64 (fop .sub .f64 (fcvt .f32 .f64 x) (fofInt .f64 (ftoInt .f64 (fcvt .f32 .f64 x) IntKind.i64))) (can .f64 4607182418800017408)) (can .f64 4602678819172646912)) (can .f64 4618760256179416344)) (fop .mul .f64 (fop .sub .f64 (fop .add .f64 (fop .sub .f64 (fcvt .f32 .f64 x) (fofInt .f64 (ftoInt .f64 (fcvt .f32 .f64 x) IntKind.i64))) (can .f64 4607182418800017408)) (can .f64 4602678819172646912)) (can .f64 4618760256179416344))) 8)) else bif forder .f64 (fop .add .f64 (fop .sub .f64 (fcvt .f32 .f64 x) (fofInt .f64 (ftoInt .f64 (fcvt .f32 .f64 x) IntKind.i64))) (can .f64 4607182418800017408)) (can .f64 4598175219545276416) == some Ordering.gt then bif forder .f64 (fop .add .f64 (fop .sub .f64 (fcvt .f32 .f64 x) (fofInt .f64 (ftoInt .f64 (fcvt .f32 .f64 x) IntKind.i64))) (can .f64 4607182418800017408)) (can .f64 4602678819172646912) == some Ordering.gt || forder .f64 (fop .add .f64 (fop .sub .f64 (fcvt .f32 .f64 x) (fofInt .f64 (ftoInt .f64 (fcvt .f32 .f64 x) IntKind.i64))) (can .f64 4607182418800017408)) (can .f64 4602678819172646912) == some Ordering.eq then fcvt .f64 .f32 (fneg .f64 (fop .mul .f64 (fop .mul .f64 (fop .sub .f64 (can .f64 4602678819172646912) (fop .add .f64 (fop .sub .f64 (fcvt .f32 .f64 x) (fofInt .f64 (ftoInt .f64 (fcvt .f32 .f64 x) IntKind.i64))) (can .f64 4607182418800017408))) (can .f64 4618760256179416344)) (sp (fop .mul .f64 (fop .mul .f64 (fop .sub .f64 (can .f64 4602678819172646912) (fop .add .f64 (fop .sub .f64 (fcvt .f32 .f64 x) (fofInt .f64 (ftoInt .f64 (fcvt .f32 .f64 x) IntKind.i64))) (can .f64 4607182418800017408))) (can .f64 4618760256179416344)) (fop .mul .f64 (fop .sub .f64 (can .f64 4602678819172646912) (fop .add .f64 (fop .sub .f64 (fcvt .f32 .f64 x) (fofInt .f64 (ftoInt .f64 (fcvt .f32 .f64 x) IntKind.i64))) (can .f64 4607182418800017408))) (can .f64 4618760256179416344))) 8))) else fcvt .f64 .f32 (fop .mul .f64 (fop .mul .f64 (fop .sub .f64 (can .f64 4602678819172646912) (fop .add .f64 (fop .sub .f64 (fcvt .f32 .f64 x) (fofInt .f64 (ftoInt .f64 (fcvt .f32 .f64 x) IntKind.i64))) (can .f64 4607182418800017408))) (can .f64 4618760256179416344)) (sp (fop .mul .f64 (fop .mul .f64 (fop .sub .f64 (can .f64 4602678819172646912) (fop .add .f64 (fop .sub .f64 (fcvt .f32 .f64 x) (fofInt .f64 (ftoInt .f64 (fcvt .f32 .f64 x) IntKind.i64))) (can .f64 4607182418800017408))) (can .f64 4618760256179416344)) (fop .mul .f64 (fop .sub .f64 (can .f64 4602678819172646912) (fop .add .f64 (fop .sub .f64 (fcvt .f32 .f64 x) (fofInt .f64 (ftoInt .f64 (fcvt .f32 .f64 x) IntKind.i64))) (can .f64 4607182418800017408))) (can .f64 4618760256179416344))) 8)) else bif forder .f64 (fop .add .f64 (fop .sub .f64 (fcvt .f32 .f64 x) (fofInt .f64 (ftoInt .f64 (fcvt .f32 .f64 x) IntKind.i64))) (can .f64 4607182418800017408)) (can .f64 4602678819172646912) == some Ordering.gt || forder .f64 (fop .add .f64 (fop .sub .f64 (fcvt .f32 .f64 x) (fofInt .f64 (ftoInt .f64 (fcvt .f32 .f64 x) IntKind.i64))) (can .f64 4607182418800017408)) (can .f64 4602678819172646912) == some Ordering.eq then fcvt .f64 .f32 (fneg .f64 (fop .mul .f64 (fop .mul .f64 (fop .add .f64 (fop .sub .f64 (fcvt .f32 .f64 x) (fofInt .f64 (ftoInt .f64 (fcvt .f32 .f64 x) IntKind.i64))) (can .f64 4607182418800017408)) (can .f64 4618760256179416344)) (sp (fop .mul .f64 (fop .mul .f64 (fop .add .f64 (fop .sub .f64 (fcvt .f32 .f64 x) (fofInt .f64 (ftoInt .f64 (fcvt .f32 .f64 x) IntKind.i64))) (can .f64 4607182418800017408)) (can .f64 4618760256179416344)) (fop .mul .f64 (fop .add .f64 (fop .sub .f64 (fcvt .f32 .f64 x) (fofInt .f64 (ftoInt .f64 (fcvt .f32 .f64 x) IntKind.i64))) (can .f64 4607182418800017408)) (can .f64 4618760256179416344))) 8))) else fcvt .f64 .f32 (fop .mul .f64 (fop .mul .f64 (fop .add .f64 (fop .sub .f64 (fcvt .f32 .f64 x) (fofInt .f64 (ftoInt .f64 (fcvt .f32 .f64 x) IntKind.i64))) (can .f64 4607182418800017408)) (can .f64 4618760256179416344)) (sp (fop .mul .f64 (fop .mul .f64 (fop .add .f64 (fop .sub .f64 (fcvt .f32 .f64 x) (fofInt .f64 (ftoInt .f64 (fcvt .f32 .f64 x) IntKind.i64))) (can .f64 4607182418800017408)) (can .f64 4618760256179416344)) (fop .mul .f64 (fop .add .f64 (fop .sub .f64 (fcvt .f32 .f64 x) (fofInt .f64 (ftoInt .f64 (fcvt .f32 .f64 x) IntKind.i64))) (can .f64 4607182418800017408)) (can .f64 4618760256179416344))) 8)) else bif forder .f64 (fop .sub .f64 (fcvt .f32 .f64 x) (fofInt .f64 (ftoInt .f64 (fcvt .f32 .f64 x) IntKind.i64))) (can .f64 4602678819172646912) == some Ordering.gt || forder .f64 (fop .sub .f64 (fcvt .f32 .f64 x) (fofInt .f64 (ftoInt .f64 (fcvt .f32 .f64 x) IntKind.i64))) (can .f64 4602678819172646912) == some Ordering.eq then bif forder .f64 (fop .sub .f64 (fop .sub .f64 (fcvt .f32 .f64 x) (fofInt .f64 (ftoInt .f64 (fcvt .f32 .f64 x) IntKind.i64))) (can .f64 4602678819172646912)) (can .f64 4598175219545276416) == some Ordering.gt then bif forder .f64 (fop .sub .f64 (fcvt .f32 .f64 x) (fofInt .f64 (ftoInt .f64 (fcvt .f32 .f64 x) IntKind.i64))) (can .f64 4602678819172646912) == some Ordering.gt || forder .f64 (fop .sub .f64 (fcvt .f32 .f64 x) (fofInt .f64 (ftoInt .f64 (fcvt .f32 .f64 x) IntKind.i64))) (can .f64 4602678819172646912) == some Ordering.eq then fcvt .f64 .f32 (fneg .f64 (fop .mul .f64 (fop .mul .f64 (fop .sub .f64 (can .f64 4602678819172646912) (fop .sub .f64 (fop .sub .f64 (fcvt .f32 .f64 x) (fofInt .f64 (ftoInt .f64 (fcvt .f32 .f64 x) IntKind.i64))) (can .f64 4602678819172646912))) (can .f64 4618760256179416344)) (sp (fop .mul .f64 (fop .mul .f64 (fop .sub .f64 (can .f64 4602678819172646912) (fop .sub .f64 (fop .sub .f64 (fcvt .f32 .f64 x) (fofInt .f64 (ftoInt .f64 (fcvt .f32 .f64 x) IntKind.i64))) (can .f64 4602678819172646912))) (can .f64 4618760256179416344)) (fop .mul .f64 (fop .sub .f64 (can .f64 4602678819172646912) (fop .sub .f64 (fop .sub .f64 (fcvt .f32 .f64 x) (fofInt .f64 (ftoInt .f64 (fcvt .f32 .f64 x) IntKind.i64))) (can .f64 4602678819172646912))) (can .f64 4618760256179416344))) 8))) else fcvt .f64 .f32 (fop .mul .f64 (fop .mul .f64 (fop .sub .f64 (can .f64 4602678819172646912) (fop .sub .f64 (fop .sub .f64 (fcvt .f32 .f64 x) (fofInt .f64 (ftoInt .f64 (fcvt .f32 .f64 x) IntKind.i64))) (can .f64 4602678819172646912))) (can .f64 4618760256179416344)) (sp (fop .mul .f64 (fop .mul .f64 (fop .sub .f64 (can .f64 4602678819172646912) (fop .sub .f64 (fop .sub .f64 (fcvt .f32 .f64 x) (fofInt .f64 (ftoInt .f64 (fcvt .f32 .f64 x) IntKind.i64))) (can .f64 4602678819172646912))) (can .f64 4618760256179416344)) (fop .mul .f64 (fop .sub .f64 (can .f64 4602678819172646912) (fop .sub .f64 (fop .sub .f64 (fcvt .f32 .f64 x) (fofInt .f64 (ftoInt .f64 (fcvt .f32 .f64 x) IntKind.i64))) (can .f64 4602678819172646912))) (can .f64 4618760256179416344))) 8)) else bif forder .f64 (fop .sub .f64 (fcvt .f32 .f64 x) (fofInt .f64 (ftoInt .f64 (fcvt .f32 .f64 x) IntKind.i64))) (can .f64 4602678819172646912) == some Ordering.gt || forder .f64 (fop .sub .f64 (fcvt .f32 .f64 x) (fofInt .f64 (ftoInt .f64 (fcvt .f32 .f64 x) IntKind.i64))) (can .f64 4602678819172646912) == some Ordering.eq then fcvt .f64 .f32 (fneg .f64 (fop .mul .f64 (fop .mul .f64 (fop .sub .f64 (fop .sub .f64 (fcvt .f32 .f64 x) (fofInt .f64 (ftoInt .f64 (fcvt .f32 .f64 x) IntKind.i64))) (can .f64 4602678819172646912)) (can .f64 4618760256179416344)) (sp (fop .mul .f64 (fop .mul .f64 (fop .sub .f64 (fop .sub .f64 (fcvt .f32 .f64 x) (fofInt .f64 (ftoInt .f64 (fcvt .f32 .f64 x) IntKind.i64))) (can .f64 4602678819172646912)) (can .f64 4618760256179416344)) (fop .mul .f64 (fop .sub .f64 (fop .sub .f64 (fcvt .f32 .f64 x) (fofInt .f64 (ftoInt .f64 (fcvt .f32 .f64 x) IntKind.i64))) (can .f64 4602678819172646912)) (can .f64 4618760256179416344))) 8))) else fcvt .f64 .f32 (fop .mul .f64 (fop .mul .f64 (fop .sub .f64 (fop .sub .f64 (fcvt .f32 .f64 x) (fofInt .f64 (ftoInt .f64 (fcvt .f32 .f64 x) IntKind.i64))) (can .f64 4602678819172646912)) (can .f64 4618760256179416344)) (sp (fop .mul .f64 (fop .mul .f64 (fop .sub .f64 (fop .sub .f64 (fcvt .f32 .f64 x) (fofInt .f64 (ftoInt .f64 (fcvt .f32 .f64 x) IntKind.i64))) (can .f64 4602678819172646912)) (can .f64 4618760256179416344)) (fop .mul .f64 (fop .sub .f64 (fop .sub .f64 (fcvt .f32 .f64 x) (fofInt .f64 (ftoInt .f64 (fcvt .f32 .f64 x) IntKind.i64))) (can .f64 4602678819172646912)) (can .f64 4618760256179416344))) 8)) else bif forder .f64 (fop .sub .f64 (fcvt .f32 .f64 x) (fofInt .f64 (ftoInt .f64 (fcvt .f32 .f64 x) IntKind.i64))) (can .f64 4598175219545276416) == some Ordering.gt then bif forder .f64 (fop .sub .f64 (fcvt .f32 .f64 x) (fofInt .f64 (ftoInt .f64 (fcvt .f32 .f64 x) IntKind.i64))) (can .f64 4602678819172646912) == some Ordering.gt || forder .f64 (fop .sub .f64 (fcvt .f32 .f64 x) (fofInt .f64 (ftoInt .f64 (fcvt .f32 .f64 x) IntKind.i64))) (can .f64 4602678819172646912) == some Ordering.eq then fcvt .f64 .f32 (fneg .f64 (fop .mul .f64 (fop .mul .f64 (fop .sub .f64 (can .f64 4602678819172646912) (fop .sub .f64 (fcvt .f32 .f64 x) (fofInt .f64 (ftoInt .f64 (fcvt .f32 .f64 x) IntKind.i64)))) (can .f64 4618760256179416344)) (sp (fop .mul .f64 (fop .mul .f64 (fop .sub .f64 (can .f64 4602678819172646912) (fop .sub .f64 (fcvt .f32 .f64 x) (fofInt .f64 (ftoInt .f64 (fcvt .f32 .f64 x) IntKind.i64)))) (can .f64 4618760256179416344)) (fop .mul .f64 (fop .sub .f64 (can .f64 4602678819172646912) (fop .sub .f64 (fcvt .f32 .f64 x) (fofInt .f64 (ftoInt .f64 (fcvt .f32 .f64 x) IntKind.i64)))) (can .f64 4618760256179416344))) 8))) else fcvt .f64 .f32 (fop .mul .f64 (fop .mul .f64 (fop .sub .f64 (can .f64 4602678819172646912) (fop .sub .f64 (fcvt .f32 .f64 x) (fofInt .f64 (ftoInt .f64 (fcvt .f32 .f64 x) IntKind.i64)))) (can .f64 4618760256179416344)) (sp (fop .mul .f64 (fop .mul .f64 (fop .sub .f64 (can .f64 4602678819172646912) (fop .sub .f64 (fcvt .f32 .f64 x) (fofInt .f64 (ftoInt .f64 (fcvt .f32 .f64 x) IntKind.i64)))) (can .f64 4618760256179416344)) (fop .mul .f64 (fop .sub .f64 (can .f64 4602678819172646912) (fop .sub .f64 (fcvt .f32 .f64 x) (fofInt .f64 (ftoInt .f64 (fcvt .f32 .f64 x) IntKind.i64)))) (can .f64 4618760256179416344))) 8)) else bif forder .f64 (fop .sub .f64 (fcvt .f32 .f64 x) (fofInt .f64 (ftoInt .f64 (fcvt .f32 .f64 x) IntKind.i64))) (can .f64 4602678819172646912) == some Ordering.gt || forder .f64 (fop .sub .f64 (fcvt .f32 .f64 x) (fofInt .f64 (ftoInt .f64 (fcvt .f32 .f64 x) IntKind.i64))) (can .f64 4602678819172646912) == some Ordering.eq then fcvt .f64 .f32 (fneg .f64 (fop .mul .f64 (fop .mul .f64 (fop .sub .f64 (fcvt .f32 .f64 x) (fofInt .f64 (ftoInt .f64 (fcvt .f32 .f64 x) IntKind.i64))) (can .f64 4618760256179416344)) (sp (fop .mul .f64 (fop .mul .f64 (fop .sub .f64 (fcvt .f32 .f64 x) (fofInt .f64 (ftoInt .f64 (fcvt .f32 .f64 x) IntKind.i64))) (can .f64 4618760256179416344)) (fop .mul .f64 (fop .sub .f64 (fcvt .f32 .f64 x) (fofInt .f64 (ftoInt .f64 (fcvt .f32 .f64 x) IntKind.i64))) (can .f64 4618760256179416344))) 8))) else fcvt .f64 .f32 (fop .mul .f64 (fop .mul .f64 (fop .sub .f64 (fcvt .f32 .f64 x) (fofInt .f64 (ftoInt .f64 (fcvt .f32 .f64 x) IntKind.i64))) (can .f64 4618760256179416344)) (sp (fop .mul .f64 (fop .mul .f64 (fop .sub .f64 (fcvt .f32 .f64 x) (fofInt .f64 (ftoInt .f64 (fcvt .f32 .f64 x) IntKind.i64))) (can .f64 4618760256179416344)) (fop .mul .f64 (fop .sub .f64 (fcvt .f32 .f64 x) (fofInt .f64 (ftoInt .f64 (fcvt .f32 .f64 x) IntKind.i64))) (can .f64 4618760256179416344))) 8)))) := by kernel_rfl
noncomputable def s80 : List A → Option (Bool × A)
  | [.flt .f32 x] => some (true, .flt .f32 (fcvt .f64 .f32 (sineW (fcvt .f32 .f64 x))))
  | _ => none
theorem s80_at : EnvAt Try.prog 74 s80 := of_auto cfg31_ok lp80_ok Try.func74 (by kernel_rfl) (by kernel_rfl) fun ds cc rr h hc => by
  unfold s80 at h
  split at h
  · rename_i x
    simp only [Option.some.injEq, Prod.mk.injEq] at h
    obtain ⟨rfl, rfl⟩ := h
    refine auto_fit (auto80 x) ?_ ?_
    · show A.flt .f32 (bif !fin x then qnan .f32 else bif geF (absN (fcvt .f32 .f64 x)) c52 then can .f32 0 else treeS (fun g i => bif geF g (can .f64 4602678819172646912) then fcvt .f64 .f32 (fneg .f64 (sineP (fop .mul .f64 i (can .f64 4618760256179416344)))) else fcvt .f64 .f32 (sineP (fop .mul .f64 i (can .f64 4618760256179416344)))) (fracF (fcvt .f32 .f64 x))) = _
      rw [treeS_eq, fin_num, ← num_cvt]
      unfold sineW
      generalize fcvt .f32 .f64 x = y
      cases hn : num .f64 y
      · show A.flt .f32 (qnan .f32) = A.flt .f32 (fcvt .f64 .f32 (qnan .f64))
        rw [show fcvt .f64 .f32 (qnan .f64) = qnan .f32 by decide +kernel]
      · rw [big_absN hn]
        cases bigF y
        · show A.flt .f32 (bif geF (sineF1 (fracF y)) (can .f64 4602678819172646912) then _ else _) = A.flt .f32 (fcvt .f64 .f32 (bif geF (sineF1 (fracF y)) (can .f64 4602678819172646912) then _ else _))
          cases geF (sineF1 (fracF y)) (can .f64 4602678819172646912) <;> rfl
        · show A.flt .f32 (can .f32 0) = A.flt .f32 (fcvt .f64 .f32 (can .f64 0))
          rw [show fcvt .f64 .f32 (can .f64 0) = can .f32 0 by decide +kernel]
    · show (bif !fin x then true else !isNaN .f64 (fcvt .f32 .f64 x) && bif geF (absN (fcvt .f32 .f64 x)) c52 then true else ftoIntOk .f64 (fcvt .f32 .f64 x) .i64 && treeS (fun g i => Nat.beq (can .f64 4607182418800017408) (sp (fop .mul .f64 (fop .mul .f64 i (can .f64 4618760256179416344)) (fop .mul .f64 i (can .f64 4618760256179416344))) 0) && Nat.beq (can .f64 4620693217682128896) (kF 0) && bif geF g (can .f64 4602678819172646912) then fcvtOk .f64 .f32 (fneg .f64 (sineP (fop .mul .f64 i (can .f64 4618760256179416344)))) && true else fcvtOk .f64 .f32 (sineP (fop .mul .f64 i (can .f64 4618760256179416344))) && true) (fracF (fcvt .f32 .f64 x))) = true
      rw [treeS_eq, fin_num, ← num_cvt]
      generalize fcvt .f32 .f64 x = y
      cases hn : num .f64 y
      · rfl
      · rw [big_absN hn, num_nan hn]
        cases hb : bigF y
        · have hz : Le .f64 6 (fop .mul .f64 (sineF3 (sineF2 (sineF1 (fracF y)))) (can .f64 4618760256179416344)) := le_mul (le_sineF (frac_ok hn hb).2) le_ctau (by decide) (by decide)
          have p1 := cvt_down (le_sineP hz) (by decide) (by decide)
          have p2 := cvt_down (le_neg (le_sineP hz)) (by decide) (by decide)
          have p3 : Nat.beq (can .f64 4620693217682128896) (kF 0) = true := by decide +kernel
          rw [(frac_ok hn hb).1, p1, p2, p3]
          show (Nat.beq (can .f64 4607182418800017408) (can .f64 4607182418800017408) && true && _) = true
          rw [Nat.beq_refl, Bool.cond_self]; rfl
        · rfl
  · cases h
noncomputable def env32 : List (Nat × (List A → Option (Bool × A))) := (74, s80) :: env31
theorem env32_ok : EnvOK Try.prog (look env32) := (env_cons s80_at env31_ok)
noncomputable def env33 : List (Nat × (List A → Option (Bool × A))) := env32
theorem env33_ok : EnvOK Try.prog (look env33) := env32_ok
end Go.Fw.E1

/-
  Points of a ring: the loops.
-/
namespace Go.Fw.E1
open Go.Proofs
def ringQ (n : Int) (i : Nat) : Nat := fop .quo .f32 (fofInt .f32 (Int.ofNat i)) (fofInt .f32 n)
noncomputable def ringX (n : Int) (r i : Nat) : Nat := fop .mul .f32 r (fcvt .f64 .f32 (sineW (fcvt .f32 .f64 (fop .add .f32 (ringQ n i) (can .f32 1048576000)))))
noncomputable def ringY (n : Int) (r i : Nat) : Nat := fop .mul .f32 r (fcvt .f64 .f32 (sineW (fcvt .f32 .f64 (ringQ n i))))
theorem lt_int {k : Nat} {n : Int} (h : k < n.toNat) : decide (Int.ofNat k < n) = true := by simp; omega
theorem ge_int {k : Nat} {n : Int} (h : ¬ k < n.toNat) : decide (Int.ofNat k < n) = false := by simp; omega
theorem app3 {k j p : Nat} {u : Nat → Nat} {x : List Nat} (hx : x.getD j 0 = u k) (hp : p < k + 1) : (match decide (p < k) with | true => u p | false => ([x].getD (p - k) []).getD j 0) = u p := by
  by_cases h : p < k
  · rw [decide_eq_true h]
  · rw [decide_eq_false h]
    obtain rfl : p = k := by omega
    rw [Nat.sub_self]; exact hx
noncomputable def env34 : List (Nat × (List A → Option (Bool × A))) := env33
theorem env34_ok : EnvOK Try.prog (look env34) := env33_ok
noncomputable def cfg34 : Cfg := mkCfg tab [] xts (look env34)
theorem cfg34_ok : CfgOK Try.prog cfg34 := cfg_ok tab_eq (no_fts _) xts_ok env34_ok mixed
noncomputable def cfgD : Cfg := mkCfg (nilTab tab) [] xts (look env34)
theorem cfgD_ok : CfgOK Try.prog cfgD := cfgN_ok' tab_eq (no_fts _) xts_ok env34_ok mixed
noncomputable def I31 (n : Int) (r h c : Nat) (k : Nat) : List A := [.int .i64 n, .int .i64 n, .flt .f32 r, .flt .f32 h, .int .i64 (Int.ofNat k), .ptr 272 0, .ptr 0 0, .bool false]
noncomputable def J31 (n : Int) (r h c : Nat) (k : Nat) : List O := [.var [.sl 336 k, .bool true, .flt .f32 c], .row 30 3 k (.vecs .f32 (ringX n r) (ringY n r) (fun _ => h)), .var [.nils, .bool false, .flt .f32 0]]
theorem round31 (n : Int) (r h c : Nat) (k : Nat) (L : XK → List A → List (Option O) → Prop) :
    ((exec cfgD (fun _ => true) (fun _ => none) 0 1000 (loopOf Try.f20 0) (litSt Try.f20.ntmps 352 [29, 0, 1, 2, 30, 10, 8, 9] [272, 336, 0] (I31 n r h c k) (J31 n r h c k))).rt [29, 0, 1, 2, 30, 10, 8, 9] [272, 336, 0]).Ok L =
    bif decide (Int.ofNat k < n) then
      bif decide (k + 1 ≤ 1073741824) then
        L (XK.normal) ([A.int .i64 n, A.int .i64 n, A.flt .f32 r, A.flt .f32 h, A.int .i64 (IntKind.i64.wrap (Int.ofNat k + Int.ofNat 1)), A.ptr 272 0, A.ptr 0 0, A.bool false]) ([some (O.var [A.sl 336 (k + 1), A.bool true, A.flt .f32 c]),   some     (O.row 30 3 (k + 1)       (Row.vecs .f32         (fun j =>           match decide (j < k) with           | true => ringX n r j           | false => ([[fop .mul .f32 r (fcvt .f64 .f32 (sineW (fcvt .f32 .f64 (fop .add .f32 (fop .quo .f32 (fofInt .f32 (Int.ofNat k)) (fofInt .f32 n)) (can .f32 1048576000))))), fop .mul .f32 r (fcvt .f64 .f32 (sineW (fcvt .f32 .f64 (fop .quo .f32 (fofInt .f32 (Int.ofNat k)) (fofInt .f32 n))))), h]].getD (j - k) []).getD 0 0)         (fun j =>           match decide (j < k) with           | true => ringY n r j           | false => ([[fop .mul .f32 r (fcvt .f64 .f32 (sineW (fcvt .f32 .f64 (fop .add .f32 (fop .quo .f32 (fofInt .f32 (Int.ofNat k)) (fofInt .f32 n)) (can .f32 1048576000))))), fop .mul .f32 r (fcvt .f64 .f32 (sineW (fcvt .f32 .f64 (fop .quo .f32 (fofInt .f32 (Int.ofNat k)) (fofInt .f32 n))))), h]].getD (j - k) []).getD 1 0)         fun j =>         match decide (j < k) with         | true => h         | false => ([[fop .mul .f32 r (fcvt .f64 .f32 (sineW (fcvt .f32 .f64 (fop .add .f32 (fop .quo .f32 (fofInt .f32 (Int.ofNat k)) (fofInt .f32 n)) (can .f32 1048576000))))), fop .mul .f32 r (fcvt .f64 .f32 (sineW (fcvt .f32 .f64 (fop .quo .f32 (fofInt .f32 (Int.ofNat k)) (fofInt .f32 n))))), h]].getD (j - k) []).getD 2 0)),   some (O.var [A.nils, A.bool false, A.flt .f32 0])])
      else
        False
    else
      L (XK.exit 0) ([A.int .i64 n, A.int .i64 n, A.flt .f32 r, A.flt .f32 h, A.int .i64 (Int.ofNat k), A.ptr 272 0, A.ptr 0 0, A.bool false]) ([some (O.var [A.sl 336 k, A.bool true, A.flt .f32 c]), some (O.row 30 3 k (Row.vecs .f32 (fun i => ringX n r i) (fun i => ringY n r i) fun x => h)), some (O.var [A.nils, A.bool false, A.flt .f32 0])]) := by kernel_rfl
noncomputable def F31 : List A → List (Option O) → Option R3
  | [.int .i64 n2, .int .i64 n, .flt .f32 r, .flt .f32 h, .int .i64 0, .ptr 272 0, .ptr 0 0, .bool false], [some (.var [.sl 336 0, .bool true, .flt .f32 c]), some (.row 30 3 0 g), some (.var [.nils, .bool false, .flt .f32 0])] => some (.ite (decide (n = n2) && decide (n ≤ 1000)) (.leaf .normal (I31 n r h c (n.toNat)) (J31 n r h c (n.toNat))) .fail)
  | _, _ => none
theorem loop31 : CodeOK Try.prog (fun _ σ => sumAt Try.f20.ntmps 352 [29, 0, 1, 2, 30, 10, 8, 9] [272, 336, 0] F31 σ) (.block 0 (.loop (loopOf Try.f20 0))) := by
  refine block_ok (own := fun _ => true) (lp := (fun _ => none)) (un := 0) (fuel := 1000) cfgD_ok (lp_none _) fun az os R hF hok => ?_
  unfold F31 at hF
  split at hF
  · rename_i n2 n r h c g
    injection hF with hF
    subst hF
    have hg := hok.guard
    have hg' := hg
    simp only [Bool.and_eq_true, Nat.ble_eq, Nat.beq_eq, decide_eq_true_eq] at hg'
    obtain ⟨rfl, hn⟩ := hg'
    refine for_fact (ids := [272, 336, 0]) (fun _ => true) (n.toNat) (I31 n r h c) (J31 n r h c) _ (.ret) (I31 n r h c) (I31 n r h c) (I31 n r h c (n.toNat)) (J31 n r h c (n.toNat)) rfl (by unfold J31; exact ⟨rfl, ⟨30, _, rfl, .inr rfl, fun p hp => absurd hp (by omega)⟩, rfl, trivial⟩) (fun _ => rfl) (fun _ => rfl) (fun _ => ALe.self _) (fun _ => rfl) (ALe.self _) (OSims.self _) rfl (fun h => by cases h) (fun k hk L h1 h2 h3 => ?_) fun L hL => ?_
    · rw [round31]
      by_cases hkm : k < n.toNat
      · refine condT (lt_int hkm) ?_
        rw [wrap_succ (by omega)]
        refine condT (decide_eq_true (by omega)) ?_
        exact h1 hkm rfl _ ⟨rfl, ⟨30, _, rfl, .inr rfl, fun p hp => vec_at (app3 (u := ringX n r) rfl hp) (app3 (u := ringY n r) rfl hp) (app3 (u := fun _ => h) rfl hp)⟩, rfl, trivial⟩
      · refine condE (ge_int hkm) ?_
        obtain rfl : k = n.toNat := by omega
        exact h3 rfl
    · exact ⟨fun _ => hL.1 hg, fun N _ h => by cases h⟩
  · cases hF
noncomputable def N31 : St → T := nilW 272 0 30 3 (sumAt Try.f20.ntmps 352 [29, 0, 1, 2, 30, 10, 8, 9] [272, 336, 0] F31)
theorem loopN31 : CodeOK Try.prog (fun _ σ => N31 σ) (.block 0 (.loop (loopOf Try.f20 0))) := nilW_ok loop31
end Go.Fw.E1

/-
  Points of a helix: the loops; rings as wires.
-/
namespace Go.Fw.E1
open Go.Proofs
def helixZ (s i : Nat) : Nat := fop .mul .f32 (fofInt .f32 (Int.ofNat i)) s
noncomputable def I26 (n m : Int) (r s c : Nat) (k : Nat) : List A := [.int .i64 n, .int .i64 n, .int .i64 m, .flt .f32 r, .flt .f32 s, .int .i64 (Int.ofNat k), .ptr 352 0, .ptr 0 0, .bool false]
noncomputable def J26 (n m : Int) (r s c : Nat) (k : Nat) : List O := [.var [.sl 416 k, .bool false, .flt .f32 c], .row 30 3 k (.vecs .f32 (ringX m r) (ringY m r) (helixZ s)), .var [.nils, .bool false, .flt .f32 0]]
theorem round26 (n m : Int) (r s c : Nat) (k : Nat) (L : XK → List A → List (Option O) → Prop) :
    ((exec cfgD (fun _ => true) (fun _ => none) 0 1000 (loopOf Try.f27 0) (litSt Try.f27.ntmps 432 [36, 0, 1, 2, 3, 37, 12, 10, 11] [352, 416, 0] (I26 n m r s c k) (J26 n m r s c k))).rt [36, 0, 1, 2, 3, 37, 12, 10, 11] [352, 416, 0]).Ok L =
    bif decide (Int.ofNat k < n) then
      bif decide (k + 1 ≤ 1073741824) then
        L (XK.normal) ([A.int .i64 n, A.int .i64 n, A.int .i64 m, A.flt .f32 r, A.flt .f32 s, A.int .i64 (IntKind.i64.wrap (Int.ofNat k + Int.ofNat 1)), A.ptr 352 0, A.ptr 0 0, A.bool false]) ([some (O.var [A.sl 416 (k + 1), A.bool false, A.flt .f32 c]),   some     (O.row 30 3 (k + 1)       (Row.vecs .f32         (fun j =>           match decide (j < k) with           | true => ringX m r j           | false => ([[fop .mul .f32 r (fcvt .f64 .f32 (sineW (fcvt .f32 .f64 (fop .add .f32 (fop .quo .f32 (fofInt .f32 (Int.ofNat k)) (fofInt .f32 m)) (can .f32 1048576000))))), fop .mul .f32 r (fcvt .f64 .f32 (sineW (fcvt .f32 .f64 (fop .quo .f32 (fofInt .f32 (Int.ofNat k)) (fofInt .f32 m))))), fop .mul .f32 (fofInt .f32 (Int.ofNat k)) s]].getD (j - k) []).getD 0 0)         (fun j =>           match decide (j < k) with           | true => ringY m r j           | false => ([[fop .mul .f32 r (fcvt .f64 .f32 (sineW (fcvt .f32 .f64 (fop .add .f32 (fop .quo .f32 (fofInt .f32 (Int.ofNat k)) (fofInt .f32 m)) (can .f32 1048576000))))), fop .mul .f32 r (fcvt .f64 .f32 (sineW (fcvt .f32 .f64 (fop .quo .f32 (fofInt .f32 (Int.ofNat k)) (fofInt .f32 m))))), fop .mul .f32 (fofInt .f32 (Int.ofNat k)) s]].getD (j - k) []).getD 1 0)         fun j =>         match decide (j < k) with         | true => helixZ s j         | false => ([[fop .mul .f32 r (fcvt .f64 .f32 (sineW (fcvt .f32 .f64 (fop .add .f32 (fop .quo .f32 (fofInt .f32 (Int.ofNat k)) (fofInt .f32 m)) (can .f32 1048576000))))), fop .mul .f32 r (fcvt .f64 .f32 (sineW (fcvt .f32 .f64 (fop .quo .f32 (fofInt .f32 (Int.ofNat k)) (fofInt .f32 m))))), fop .mul .f32 (fofInt .f32 (Int.ofNat k)) s]].getD (j - k) []).getD 2 0)),   some (O.var [A.nils, A.bool false, A.flt .f32 0])])
      else
        False
    else
      L (XK.exit 0) ([A.int .i64 n, A.int .i64 n, A.int .i64 m, A.flt .f32 r, A.flt .f32 s, A.int .i64 (Int.ofNat k), A.ptr 352 0, A.ptr 0 0, A.bool false]) ([some (O.var [A.sl 416 k, A.bool false, A.flt .f32 c]), some (O.row 30 3 k (Row.vecs .f32 (fun i => ringX m r i) (fun i => ringY m r i) fun i => helixZ s i)), some (O.var [A.nils, A.bool false, A.flt .f32 0])]) := by kernel_rfl
noncomputable def F26 : List A → List (Option O) → Option R3
  | [.int .i64 n2, .int .i64 n, .int .i64 m, .flt .f32 r, .flt .f32 s, .int .i64 0, .ptr 352 0, .ptr 0 0, .bool false], [some (.var [.sl 416 0, .bool false, .flt .f32 c]), some (.row 30 3 0 g), some (.var [.nils, .bool false, .flt .f32 0])] => some (.ite (decide (n = n2) && decide (n ≤ 1000)) (.leaf .normal (I26 n m r s c (n.toNat)) (J26 n m r s c (n.toNat))) .fail)
  | _, _ => none
theorem loop26 : CodeOK Try.prog (fun _ σ => sumAt Try.f27.ntmps 432 [36, 0, 1, 2, 3, 37, 12, 10, 11] [352, 416, 0] F26 σ) (.block 0 (.loop (loopOf Try.f27 0))) := by
  refine block_ok (own := fun _ => true) (lp := (fun _ => none)) (un := 0) (fuel := 1000) cfgD_ok (lp_none _) fun az os R hF hok => ?_
  unfold F26 at hF
  split at hF
  · rename_i n2 n m r s c g
    injection hF with hF
    subst hF
    have hg := hok.guard
    have hg' := hg
    simp only [Bool.and_eq_true, Nat.ble_eq, Nat.beq_eq, decide_eq_true_eq] at hg'
    obtain ⟨rfl, hn⟩ := hg'
    refine for_fact (ids := [352, 416, 0]) (fun _ => true) (n.toNat) (I26 n m r s c) (J26 n m r s c) _ (.ret) (I26 n m r s c) (I26 n m r s c) (I26 n m r s c (n.toNat)) (J26 n m r s c (n.toNat)) rfl (by unfold J26; exact ⟨rfl, ⟨30, _, rfl, .inr rfl, fun p hp => absurd hp (by omega)⟩, rfl, trivial⟩) (fun _ => rfl) (fun _ => rfl) (fun _ => ALe.self _) (fun _ => rfl) (ALe.self _) (OSims.self _) rfl (fun h => by cases h) (fun k hk L h1 h2 h3 => ?_) fun L hL => ?_
    · rw [round26]
      by_cases hkm : k < n.toNat
      · refine condT (lt_int hkm) ?_
        rw [wrap_succ (by omega)]
        refine condT (decide_eq_true (by omega)) ?_
        exact h1 hkm rfl _ ⟨rfl, ⟨30, _, rfl, .inr rfl, fun p hp => vec_at (app3 (u := ringX m r) rfl hp) (app3 (u := ringY m r) rfl hp) (app3 (u := helixZ s) rfl hp)⟩, rfl, trivial⟩
      · refine condE (ge_int hkm) ?_
        obtain rfl : k = n.toNat := by omega
        exact h3 rfl
    · exact ⟨fun _ => hL.1 hg, fun N _ h => by cases h⟩
  · cases hF
noncomputable def N26 : St → T := nilW 352 0 30 3 (sumAt Try.f27.ntmps 432 [36, 0, 1, 2, 3, 37, 12, 10, 11] [352, 416, 0] F26)
theorem loopN26 : CodeOK Try.prog (fun _ σ => N26 σ) (.block 0 (.loop (loopOf Try.f27 0))) := nilW_ok loop26
end Go.Fw.E1

/-
  Rings and helices as wires.
-/
namespace Go.Fw.E1
open Go.Proofs
noncomputable def env35 : List (Nat × (List A → Option (Bool × A))) := env34
theorem env35_ok : EnvOK Try.prog (look env35) := env34_ok
noncomputable def cfg35 : Cfg := mkCfg tab [] xts (look env35)
theorem cfg35_ok : CfgOK Try.prog cfg35 := cfg_ok tab_eq (no_fts _) xts_ok env35_ok mixed
noncomputable def fts75 : List (Nat × Func) := [(75, Try.f75)]
theorem fts75_ok (f : Nat) (fn : Func) (h : (f, fn) ∈ fts75) : Try.prog.funcs[f]? = some fn ∧ (fn.name == "runtime.NumGoroutine") = false := by
  simp only [fts75, List.mem_cons, Prod.mk.injEq, List.not_mem_nil, or_false] at h
  obtain ⟨rfl, rfl⟩ := h
  exact ⟨Try.func75, by kernel_rfl⟩
noncomputable def cfgGD : Cfg := mkCfg (nilTab tab) fts75 xts (look env35)
theorem cfgGD_ok : CfgOK Try.prog cfgGD := cfgN_ok' tab_eq fts75_ok xts_ok env35_ok mixed
end Go.Fw.E1

/-
  Rings as wires: contracts.
-/
namespace Go.Fw.E1
open Go.Proofs
noncomputable def ringOk (n : Int) (r h c : Nat) : Bool := (bif decide (n ≥ 3) then decide (n ≤ 48) else false) && above r && okW n.toNat c (ringX n r) (ringY n r) (fun _ => h)
theorem ring_ok {n : Int} {r h c : Nat} (hr : ringOk n r h c = true) : (bif decide (n ≥ 3) then decide (n ≤ 48) else false) = true ∧ above r = true ∧ okW n.toNat c (ringX n r) (ringY n r) (fun _ => h) = true ∧ 3 ≤ n ∧ n ≤ 48 := by
  unfold ringOk at hr
  simp only [Bool.and_eq_true] at hr
  refine ⟨hr.1.1, hr.1.2, hr.2, ?_⟩
  have h1 := hr.1.1
  by_cases h3 : n ≥ 3
  · rw [decide_eq_true h3] at h1; exact ⟨h3, of_decide_eq_true h1⟩
  · rw [decide_eq_false h3] at h1; cases h1
theorem okW_fin {n cur : Nat} {x y : Nat → Nat} {h : Nat} (hw : okW n cur x y (fun _ => h) = true) : fin h = true := by
  unfold okW at hw
  simp only [Bool.and_eq_true, decide_eq_true_eq] at hw
  have := allUpTo_iff.1 hw.2 0 (by omega)
  unfold vfinAt vfin at this
  revert this
  cases fin (x 0) <;> cases fin (y 0) <;> cases fin h <;> simp
end Go.Fw.E1

/-
  Helices as wires: contracts.
-/
namespace Go.Fw.E1
open Go.Proofs
theorem num_mul {k : FloatKind} {x y : Nat} (h : num k (fop .mul k x y) = true) : num k y = true := by
  cases hy : k.format.read y with
  | number s m i => exact num_iff.2 ⟨_, _, _, hy⟩
  | nan s t =>
    exfalso
    have e : fop .mul k x y = qnan k := by
      unfold fop
      have e : floatBits .mul k x y = ((k.format.read x).product (k.format.read y)).map k.format.write := rfl
      rw [e, hy, product_nan_right]; rfl
    rw [e] at h
    revert h
    cases k <;> decide +kernel
  | infinity s =>
    exfalso
    have e : ∃ g, fop .mul k x y = qnan k ∨ fop .mul k x y = k.format.word g k.format.infRung := by
      unfold fop
      have e : floatBits .mul k x y = ((k.format.read x).product (k.format.read y)).map k.format.write := rfl
      rw [e, hy]
      have hD : ∀ d : Ieee.Datum, d.product (.infinity s) = none ∨ ∃ g, d.product (.infinity s) = some (.infinity g) := fun d => by
        cases d with
        | nan a b => exact .inl rfl
        | infinity a => exact .inr ⟨_, rfl⟩
        | number a n j =>
          simp only [Ieee.Datum.product]
          split
          · exact .inl rfl
          · exact .inr ⟨_, rfl⟩
      rcases hD (k.format.read x) with h | ⟨g, h⟩
      · rw [h]; exact ⟨true, .inl rfl⟩
      · rw [h]; exact ⟨g, .inr rfl⟩
    obtain ⟨g, e | e⟩ := e
    · rw [e] at h; revert h; cases k <;> decide +kernel
    · rw [e] at h; revert h; cases k <;> cases g <;> decide +kernel
noncomputable def inN (n : Int) : Bool := bif decide (n ≥ 2) then decide (n ≤ 48) else false
noncomputable def inM (n : Int) : Bool := bif decide (n ≥ 3) then decide (n ≤ 48) else false
noncomputable def helixOk (n m : Int) (r s c : Nat) : Bool := inN n && inM m && above r && okW n.toNat c (ringX m r) (ringY m r) (helixZ s)
theorem inN_ok {n : Int} (h : inN n = true) : 2 ≤ n ∧ n ≤ 48 := by
  unfold inN at h
  by_cases h3 : n ≥ 2
  · rw [decide_eq_true h3] at h; exact ⟨h3, of_decide_eq_true h⟩
  · rw [decide_eq_false h3] at h; cases h
theorem helix_ok {n m : Int} {r s c : Nat} (hr : helixOk n m r s c = true) : inN n = true ∧ inM m = true ∧ above r = true ∧ okW n.toNat c (ringX m r) (ringY m r) (helixZ s) = true ∧ 2 ≤ n ∧ n ≤ 48 := by
  unfold helixOk at hr
  simp only [Bool.and_eq_true] at hr
  obtain ⟨⟨⟨h1, h2⟩, h3⟩, h4⟩ := hr
  exact ⟨h1, h2, h3, h4, inN_ok h1⟩
theorem okW_rise {n cur : Nat} {x y : Nat → Nat} {s : Nat} (hw : okW n cur x y (helixZ s) = true) : fin s = true := by
  unfold okW at hw
  simp only [Bool.and_eq_true, decide_eq_true_eq] at hw
  have := allUpTo_iff.1 hw.2 1 (by omega)
  unfold vfinAt vfin at this
  have hz : fin (helixZ s 1) = true := by
    revert this
    cases fin (x 1) <;> cases fin (y 1) <;> cases fin (helixZ s 1) <;> simp
  rw [fin_num] at hz ⊢
  exact num_mul hz
noncomputable def lp26T : List (Nat × (St → T)) := [(0, N26)]
theorem lp26T_ok : LpOK Try.prog (look lp26T) (bodyOf Try.f27) := lp_loops (by kernel_rfl) (by kernel_rfl) fun p hp => by
  simp only [lp26T, List.mem_cons, List.not_mem_nil, or_false] at hp
  rcases hp with rfl
  · exact loopN26
theorem auto26T (n m : Int) (r s c : Nat) : autoS cfgGD (look lp26T) false Try.f27 [.int .i64 n, .int .i64 m, .flt .f32 r, .flt .f32 s, .flt .f32 c] =
    some ((!bif bif bif !bif decide (n ≥ 2) then decide (n ≤ 48) else false then true else !inI m (Int.ofNat 3) (Int.ofNat 48) then true else !above r then true else !fin s) && (decide (n = n) && decide (n ≤ 1000) && (n.toNat.ble 4611686018427387000 && (!!okW n.toNat c (ringX m r) (ringY m r) (helixZ s) && true))), A.tup [A.agg [A.ro 3 n.toNat (Row.vecs .f32 (fun i => ringX m r i) (fun i => ringY m r i) fun i => helixZ s i), A.bool false, A.flt .f32 c], A.bool true]) := by kernel_rfl
noncomputable def s26T : List A → Option (Bool × A)
  | [.int .i64 n, .int .i64 m, .flt .f32 r, .flt .f32 s, .flt .f32 c] => some (helixOk n m r s c, .tup [.agg [.ro 3 n.toNat (.vecs .f32 (ringX m r) (ringY m r) (helixZ s)), .bool false, .flt .f32 c], .bool true])
  | _ => none
theorem s26T_at : EnvAt Try.prog 27 s26T := of_autoS cfgGD_ok lp26T_ok Try.func27 (by kernel_rfl) (by kernel_rfl) fun ds cc rr h hc => by
  unfold s26T at h
  split at h
  · rename_i n m r s c
    simp only [Option.some.injEq, Prod.mk.injEq] at h
    obtain ⟨rfl, rfl⟩ := h
    refine auto_fit (auto26T n m r s c) ?_ ?_
    · rfl
    · obtain ⟨h1, h2, h3, h4, h5, h6⟩ := helix_ok hc
      have h1' : (bif decide (n ≥ 2) then decide (n ≤ 48) else false) = true := h1
      have h2' : inI m (Int.ofNat 3) (Int.ofNat 48) = true := h2
      rw [h1', h2', h3, h4, okW_rise h4, decide_eq_true (show n ≤ 1000 by omega), decide_eq_true rfl, ble_of (show n.toNat ≤ 4611686018427387000 by omega)]; rfl
  · cases h
end Go.Fw.E1

/-
  Wires that are turned: tables.
-/
namespace Go.Fw.E1
open Go.Proofs
end Go.Fw.E1

/-
  A wire that is turned: the reference's loop.
-/
namespace Go.Fw.E1
open Go.Proofs
noncomputable def spX (c s : Nat) (x y : Nat → Nat) (p : Nat) : Nat := fop .sub .f32 (fop .mul .f32 c (x p)) (fop .mul .f32 s (y p))
noncomputable def spY (c s : Nat) (x y : Nat → Nat) (p : Nat) : Nat := fop .add .f32 (fop .mul .f32 s (x p)) (fop .mul .f32 c (y p))
end Go.Fw.E1

/-
  A wire that is turned: the reference.
-/
namespace Go.Fw.E1
open Go.Proofs
noncomputable def sT (t : Nat) : Nat := fcvt .f64 .f32 (sineW (fcvt .f32 .f64 t))
noncomputable def cT (t : Nat) : Nat := fcvt .f64 .f32 (sineW (fcvt .f32 .f64 (fop .add .f32 t (can .f32 1048576000))))
noncomputable def spinOk (n cur : Nat) (x y z : Nat → Nat) (t : Nat) : Bool := okW n cur x y z && fin t && okW n cur (spX (cT t) (sT t) x y) (spY (cT t) (sT t) x y) z
theorem spin_ok {n cur t : Nat} {x y z : Nat → Nat} (h : spinOk n cur x y z t = true) : okW n cur x y z = true ∧ fin t = true ∧ okW n cur (spX (cT t) (sT t) x y) (spY (cT t) (sT t) x y) z = true ∧ 1 ≤ n ∧ n ≤ 1000 := by
  unfold spinOk at h
  simp only [Bool.and_eq_true] at h
  obtain ⟨⟨h1, h2⟩, h3⟩ := h
  exact ⟨h1, h2, h3, by have := okW_n h1; omega, by have := okW_n h1; omega⟩
end Go.Fw.E1

/-
  A wire that is turned: the program's point.
-/
namespace Go.Fw.E1
open Go.Proofs
theorem auto96 (x y z c s : Nat) : autoLp cfg34 (fun _ => none) Try.f90 [.agg [.flt .f32 x, .flt .f32 y, .flt .f32 z], .rop (.agg [.flt .f32 c]) 0, .rop (.agg [.flt .f32 s]) 0] =
    some (true, A.agg [A.flt .f32 (fop .sub .f32 (fop .mul .f32 c x) (fop .mul .f32 s y)), A.flt .f32 (fop .add .f32 (fop .mul .f32 s x) (fop .mul .f32 c y)), A.flt .f32 z]) := by kernel_rfl
noncomputable def s96 : List A → Option (Bool × A)
  | [.agg [.flt .f32 x, .flt .f32 y, .flt .f32 z], .rop (.agg [.flt .f32 c]) 0, .rop (.agg [.flt .f32 s]) 0] => some (true, .agg [.flt .f32 (fop .sub .f32 (fop .mul .f32 c x) (fop .mul .f32 s y)), .flt .f32 (fop .add .f32 (fop .mul .f32 s x) (fop .mul .f32 c y)), .flt .f32 z])
  | _ => none
theorem s96_at : EnvAt Try.prog 90 s96 := of_auto cfg34_ok (lp_none _) Try.func90 (by kernel_rfl) (by kernel_rfl) fun ds cc rr h hc => by
  unfold s96 at h
  split at h
  · rename_i x y z c s
    simp only [Option.some.injEq, Prod.mk.injEq] at h
    obtain ⟨rfl, rfl⟩ := h
    refine auto_fit (auto96 x y z c s) ?_ ?_
    · rfl
    · rfl
  · cases h
noncomputable def env39 : List (Nat × (List A → Option (Bool × A))) := (90, s96) :: env35
theorem env39_ok : EnvOK Try.prog (look env39) := (env_cons s96_at env35_ok)
noncomputable def cfgGN : Cfg := mkCfg (nilTab tab) fts75 xts (look env39)
theorem cfgGN_ok : CfgOK Try.prog cfgGN := cfgN_ok' tab_eq fts75_ok xts_ok env39_ok mixed
end Go.Fw.E1

/-
  A wire that is turned: the program.
-/
namespace Go.Fw.E1
open Go.Proofs
noncomputable def I95 (n cur c s : Nat) (x y z : Nat → Nat) (cl : Bool) (k : Nat) : List A := [.fn 90 [.rop (.agg [.flt .f32 c]) 0, .rop (.agg [.flt .f32 s]) 0], .ro 3 n (.vecs .f32 x y z), .int .i64 (Int.ofNat n), .int .i64 (Int.ofNat k), .ptr 176 0, .ptr 16 0, .bool false]
noncomputable def J95 (n cur c s : Nat) (x y z : Nat → Nat) (cl : Bool) (k : Nat) : List O := [.var [.sl 272 k, .bool cl, .flt .f32 cur], .row 30 3 k (.vecs .f32 (spX c s x y) (spY c s x y) z), .var [.nils, .bool false, .flt .f32 0]]
theorem round95 (n cur c s : Nat) (x y z : Nat → Nat) (cl : Bool) (k : Nat) (L : XK → List A → List (Option O) → Prop) :
    ((exec cfgGN (fun _ => true) (fun _ => none) 0 1000 (loopOf Try.f85 0) (litSt Try.f85.ntmps 288 [1, 19, 20, 21, 6, 4, 5] [176, 272, 16] (I95 n cur c s x y z cl k) (J95 n cur c s x y z cl k))).rt [1, 19, 20, 21, 6, 4, 5] [176, 272, 16]).Ok L =
    bif decide (Int.ofNat k < Int.ofNat n) then
       bif decide (Int.ofNat k < Int.ofNat n) then
         bif decide (k + 1 ≤ 1073741824) then
           L (XK.normal) ([A.fn 90 [(A.agg [A.flt .f32 c]).rop 0, (A.agg [A.flt .f32 s]).rop 0], A.ro 3 n (Row.vecs .f32 x y z), A.int .i64 (Int.ofNat n), A.int .i64 (IntKind.i64.wrap (Int.ofNat k + Int.ofNat 1)), A.ptr 176 0, A.ptr 16 0, A.bool false]) ([some (O.var [A.sl 272 (k + 1), A.bool cl, A.flt .f32 cur]),   some     (O.row 30 3 (k + 1)       (Row.vecs .f32         (fun j =>           (match decide (j < k) with | true => spX c s x y j | false => ([[fop .sub .f32 (fop .mul .f32 c (x k)) (fop .mul .f32 s (y k)), fop .add .f32 (fop .mul .f32 s (x k)) (fop .mul .f32 c (y k)), z k]].getD (j - k) []).getD 0 0))         (fun j =>           (match decide (j < k) with | true => spY c s x y j | false => ([[fop .sub .f32 (fop .mul .f32 c (x k)) (fop .mul .f32 s (y k)), fop .add .f32 (fop .mul .f32 s (x k)) (fop .mul .f32 c (y k)), z k]].getD (j - k) []).getD 1 0))         fun j =>         (match decide (j < k) with | true => z j | false => ([[fop .sub .f32 (fop .mul .f32 c (x k)) (fop .mul .f32 s (y k)), fop .add .f32 (fop .mul .f32 s (x k)) (fop .mul .f32 c (y k)), z k]].getD (j - k) []).getD 2 0))),   some (O.var [A.nils, A.bool false, A.flt .f32 0])])
         else
           False
       else
         False
     else
       L (XK.exit 0) ([A.fn 90 [(A.agg [A.flt .f32 c]).rop 0, (A.agg [A.flt .f32 s]).rop 0], A.ro 3 n (Row.vecs .f32 x y z), A.int .i64 (Int.ofNat n), A.int .i64 (Int.ofNat k), A.ptr 176 0, A.ptr 16 0, A.bool false]) ([some (O.var [A.sl 272 k, A.bool cl, A.flt .f32 cur]), some (O.row 30 3 k (Row.vecs .f32 (fun p => spX c s x y p) (fun p => spY c s x y p) z)), some (O.var [A.nils, A.bool false, A.flt .f32 0])]) := by kernel_rfl
noncomputable def F95 : List A → List (Option O) → Option R3
  | [.fn 90 [.rop (.agg [.flt .f32 c]) 0, .rop (.agg [.flt .f32 s]) 0], .ro 3 n (.vecs .f32 x y z), .int .i64 l, .int .i64 0, .ptr 176 0, .ptr 16 0, .bool false], [some (.var [.sl 272 0, .bool cl, .flt .f32 cur]), some (.row 30 3 0 g), some (.var [.nils, .bool false, .flt .f32 0])] => some (.ite (decide (l = Int.ofNat n) && Nat.ble n 1000) (.leaf .normal (I95 n cur c s x y z cl (n)) (J95 n cur c s x y z cl (n))) .fail)
  | _, _ => none
theorem loop95 : CodeOK Try.prog (fun _ σ => sumAt Try.f85.ntmps 288 [1, 19, 20, 21, 6, 4, 5] [176, 272, 16] F95 σ) (.block 0 (.loop (loopOf Try.f85 0))) := by
  refine block_ok (own := fun _ => true) (lp := (fun _ => none)) (un := 0) (fuel := 1000) cfgGN_ok (lp_none _) fun az os R hF hok => ?_
  unfold F95 at hF
  split at hF
  · rename_i c s n x y z l cl cur g
    injection hF with hF
    subst hF
    have hg := hok.guard
    have hg' := hg
    simp only [Bool.and_eq_true, Nat.ble_eq, Nat.beq_eq, decide_eq_true_eq] at hg'
    obtain ⟨rfl, hn⟩ := hg'
    refine for_fact (ids := [176, 272, 16]) (fun _ => true) (n) (I95 n cur c s x y z cl) (J95 n cur c s x y z cl) _ (.ret) (I95 n cur c s x y z cl) (I95 n cur c s x y z cl) (I95 n cur c s x y z cl (n)) (J95 n cur c s x y z cl (n)) rfl (by unfold J95; exact ⟨rfl, ⟨30, _, rfl, .inr rfl, fun p hp => absurd hp (by omega)⟩, rfl, trivial⟩) (fun _ => rfl) (fun _ => rfl) (fun _ => ALe.self _) (fun _ => rfl) (ALe.self _) (OSims.self _) rfl (fun h => by cases h) (fun k hk L h1 h2 h3 => ?_) fun L hL => ?_
    · rw [round95]
      by_cases hkm : k < n
      · refine condT (lt_dec hkm) ?_
        rw [wrap_succ (by omega)]
        refine condT (lt_dec hkm) ?_
        refine condT (decide_eq_true (by omega)) ?_
        exact h1 hkm rfl _ ⟨rfl, ⟨30, _, rfl, .inr rfl, fun p hp => vec_at (app3 (u := spX c s x y) rfl hp) (app3 (u := spY c s x y) rfl hp) (app3 (u := z) rfl hp)⟩, rfl, trivial⟩
      · refine condE (ge_dec (by omega)) ?_
        obtain rfl : k = n := by omega
        exact h3 rfl
    · exact ⟨fun _ => hL.1 hg, fun N _ h => by cases h⟩
  · cases hF
noncomputable def N95 : St → T := nilW 176 0 30 3 (sumAt Try.f85.ntmps 288 [1, 19, 20, 21, 6, 4, 5] [176, 272, 16] F95)
theorem loopN95 : CodeOK Try.prog (fun _ σ => N95 σ) (.block 0 (.loop (loopOf Try.f85 0))) := nilW_ok loop95
noncomputable def chgOk (n cur c s : Nat) (x y z : Nat → Nat) : Bool := okW n cur x y z && okW n cur (spX c s x y) (spY c s x y) z
noncomputable def lp95T : List (Nat × (St → T)) := [(0, N95)]
theorem lp95T_ok : LpOK Try.prog (look lp95T) (bodyOf Try.f85) := lp_loops (by kernel_rfl) (by kernel_rfl) fun p hp => by
  simp only [lp95T, List.mem_cons, List.not_mem_nil, or_false] at hp
  rcases hp with rfl
  · exact loopN95
theorem auto95T (n cur : Nat) (x y z : Nat → Nat) (cl : Bool) (c s : Nat) : autoS cfgGN (look lp95T) false Try.f85 [.agg [.ro 3 n (.vecs .f32 x y z), .bool cl, .flt .f32 cur], .fn 90 [.rop (.agg [.flt .f32 c]) 0, .rop (.agg [.flt .f32 s]) 0]] =
    some (n.ble 4611686018427387000 && (!!okW n cur x y z && (decide (Int.ofNat n = Int.ofNat n) && n.ble 1000 && (n.ble 4611686018427387000 && (!!okW n cur (spX c s x y) (spY c s x y) z && true)))), A.tup [A.agg [A.ro 3 n (Row.vecs .f32 (fun p => spX c s x y p) (fun p => spY c s x y p) z), A.bool cl, A.flt .f32 cur], A.bool true]) := by kernel_rfl
noncomputable def s95T : List A → Option (Bool × A)
  | [.agg [.ro 3 n (.vecs .f32 x y z), .bool cl, .flt .f32 cur], .fn 90 [.rop (.agg [.flt .f32 c]) 0, .rop (.agg [.flt .f32 s]) 0]] => some (chgOk n cur c s x y z, .tup [.agg [.ro 3 n (.vecs .f32 (spX c s x y) (spY c s x y) z), .bool cl, .flt .f32 cur], .bool true])
  | _ => none
theorem s95T_at : EnvAt Try.prog 85 s95T := of_autoS cfgGN_ok lp95T_ok Try.func85 (by kernel_rfl) (by kernel_rfl) fun ds cc rr h hc => by
  unfold s95T at h
  split at h
  · rename_i n x y z cl cur c s
    simp only [Option.some.injEq, Prod.mk.injEq] at h
    obtain ⟨rfl, rfl⟩ := h
    refine auto_fit (auto95T n cur x y z cl c s) ?_ ?_
    · rfl
    · obtain ⟨h1, h2⟩ := (Bool.and_eq_true _ _).mp hc
      have h5 := okW_n h1
      show (n.ble 4611686018427387000 && (!!okW n cur x y z && (decide (Int.ofNat n = Int.ofNat n) && n.ble 1000 && (n.ble 4611686018427387000 && (!!okW n cur (spX c s x y) (spY c s x y) z && true))))) = true
      rw [h1, h2, ble_of (show n ≤ 4611686018427387000 by omega), ble_of (show n ≤ 1000 by omega), decide_eq_true rfl]; rfl
  · cases h
noncomputable def env40T : List (Nat × (List A → Option (Bool × A))) := (85, s95T) :: env39
theorem env40T_ok : EnvOK Try.prog (look env40T) := (env_cons s95T_at env39_ok)
noncomputable def cfgGT : Cfg := mkCfg (nilTab tab) fts75 xts (look env40T)
theorem cfgGT_ok : CfgOK Try.prog cfgGT := cfgN_ok' tab_eq fts75_ok xts_ok env40T_ok mixed
theorem auto37T (n cur : Nat) (x y z : Nat → Nat) (cl : Bool) (t : Nat) : autoS cfgGT (fun _ => none) false Try.f36 [.agg [.ro 3 n (.vecs .f32 x y z), .bool cl, .flt .f32 cur], .flt .f32 t] =
    some (!!fin t && (chgOk n cur (fcvt .f64 .f32 (sineW (fcvt .f32 .f64 (fop .add .f32 t (can .f32 1048576000))))) (fcvt .f64 .f32 (sineW (fcvt .f32 .f64 t))) x y z && true), A.tup [A.agg [A.ro 3 n (Row.vecs .f32 (fun p => spX (fcvt .f64 .f32 (sineW (fcvt .f32 .f64 (fop .add .f32 t (can .f32 1048576000))))) (fcvt .f64 .f32 (sineW (fcvt .f32 .f64 t))) x y p) (fun p => spY (fcvt .f64 .f32 (sineW (fcvt .f32 .f64 (fop .add .f32 t (can .f32 1048576000))))) (fcvt .f64 .f32 (sineW (fcvt .f32 .f64 t))) x y p) z), A.bool cl, A.flt .f32 cur], A.bool true]) := by kernel_rfl
noncomputable def s37T : List A → Option (Bool × A)
  | [.agg [.ro 3 n (.vecs .f32 x y z), .bool cl, .flt .f32 cur], .flt .f32 t] => some (spinOk n cur x y z t, .tup [.agg [.ro 3 n (.vecs .f32 (spX (cT t) (sT t) x y) (spY (cT t) (sT t) x y) z), .bool cl, .flt .f32 cur], .bool true])
  | _ => none
theorem s37T_at : EnvAt Try.prog 36 s37T := of_autoS cfgGT_ok (lp_none _) Try.func36 (by kernel_rfl) (by kernel_rfl) fun ds cc rr h hc => by
  unfold s37T at h
  split at h
  · rename_i n x y z cl cur t
    simp only [Option.some.injEq, Prod.mk.injEq] at h
    obtain ⟨rfl, rfl⟩ := h
    refine auto_fit (auto37T n cur x y z cl t) ?_ ?_
    · rfl
    · obtain ⟨h1, h2, h3, h4, h5⟩ := spin_ok hc
      show (!!fin t && (chgOk n cur (cT t) (sT t) x y z && true)) = true
      unfold chgOk
      rw [h1, h2, h3]; rfl
  · cases h
end Go.Fw.E1

/-
  Wires that are moved: tables.
-/
namespace Go.Fw.E1
open Go.Proofs
theorem auto140 (x y z a b c : Nat) : autoLp cfg35 (fun _ => none) Try.f86 [.agg [.flt .f32 x, .flt .f32 y, .flt .f32 z], .rop (.agg [.flt .f32 a, .flt .f32 b, .flt .f32 c]) 0] =
    some (true, A.agg [A.flt .f32 (fop .add .f32 x a), A.flt .f32 (fop .add .f32 y b), A.flt .f32 (fop .add .f32 z c)]) := by kernel_rfl
noncomputable def s140 : List A → Option (Bool × A)
  | [.agg [.flt .f32 x, .flt .f32 y, .flt .f32 z], .rop (.agg [.flt .f32 a, .flt .f32 b, .flt .f32 c]) 0] => some (true, .agg [.flt .f32 (fop .add .f32 x a), .flt .f32 (fop .add .f32 y b), .flt .f32 (fop .add .f32 z c)])
  | _ => none
theorem s140_at : EnvAt Try.prog 86 s140 := of_auto cfg35_ok (lp_none _) Try.func86 (by kernel_rfl) (by kernel_rfl) fun ds cc rr h hc => by
  unfold s140 at h
  split at h
  · rename_i x y z a b c
    simp only [Option.some.injEq, Prod.mk.injEq] at h
    obtain ⟨rfl, rfl⟩ := h
    refine auto_fit (auto140 x y z a b c) ?_ ?_
    · rfl
    · rfl
  · cases h
noncomputable def env41 : List (Nat × (List A → Option (Bool × A))) := (86, s140) :: env35
theorem env41_ok : EnvOK Try.prog (look env41) := (env_cons s140_at env35_ok)
noncomputable def cfgMN : Cfg := mkCfg (nilTab tab) fts75 xts (look env41)
theorem cfgMN_ok : CfgOK Try.prog cfgMN := cfgN_ok' tab_eq fts75_ok xts_ok env41_ok mixed
end Go.Fw.E1

/-
  Wires that are moved.
-/
namespace Go.Fw.E1
open Go.Proofs
noncomputable def adX (a : Nat) (x : Nat → Nat) (p : Nat) : Nat := fop .add .f32 (x p) a
noncomputable def I95m (n cur a b c : Nat) (x y z : Nat → Nat) (cl : Bool) (k : Nat) : List A := [.fn 86 [.rop (.agg [.flt .f32 a, .flt .f32 b, .flt .f32 c]) 0], .ro 3 n (.vecs .f32 x y z), .int .i64 (Int.ofNat n), .int .i64 (Int.ofNat k), .ptr 176 0, .ptr 16 0, .bool false]
noncomputable def J95m (n cur a b c : Nat) (x y z : Nat → Nat) (cl : Bool) (k : Nat) : List O := [.var [.sl 272 k, .bool cl, .flt .f32 cur], .row 30 3 k (.vecs .f32 (adX a x) (adX b y) (adX c z)), .var [.nils, .bool false, .flt .f32 0]]
theorem round95m (n cur a b c : Nat) (x y z : Nat → Nat) (cl : Bool) (k : Nat) (L : XK → List A → List (Option O) → Prop) :
    ((exec cfgMN (fun _ => true) (fun _ => none) 0 1000 (loopOf Try.f85 0) (litSt Try.f85.ntmps 288 [1, 19, 20, 21, 6, 4, 5] [176, 272, 16] (I95m n cur a b c x y z cl k) (J95m n cur a b c x y z cl k))).rt [1, 19, 20, 21, 6, 4, 5] [176, 272, 16]).Ok L =
    bif decide (Int.ofNat k < Int.ofNat n) then
       bif decide (Int.ofNat k < Int.ofNat n) then
         bif decide (k + 1 ≤ 1073741824) then
           L (XK.normal) ([A.fn 86 [(A.agg [A.flt .f32 a, A.flt .f32 b, A.flt .f32 c]).rop 0], A.ro 3 n (Row.vecs .f32 x y z), A.int .i64 (Int.ofNat n), A.int .i64 (IntKind.i64.wrap (Int.ofNat k + Int.ofNat 1)), A.ptr 176 0, A.ptr 16 0, A.bool false]) ([some (O.var [A.sl 272 (k + 1), A.bool cl, A.flt .f32 cur]),   some     (O.row 30 3 (k + 1)       (Row.vecs .f32         (fun j =>           (match decide (j < k) with | true => adX a x j | false => ([[fop .add .f32 (x k) a, fop .add .f32 (y k) b, fop .add .f32 (z k) c]].getD (j - k) []).getD 0 0))         (fun j =>           (match decide (j < k) with | true => adX b y j | false => ([[fop .add .f32 (x k) a, fop .add .f32 (y k) b, fop .add .f32 (z k) c]].getD (j - k) []).getD 1 0))         fun j =>         (match decide (j < k) with | true => adX c z j | false => ([[fop .add .f32 (x k) a, fop .add .f32 (y k) b, fop .add .f32 (z k) c]].getD (j - k) []).getD 2 0))),   some (O.var [A.nils, A.bool false, A.flt .f32 0])])
         else
           False
       else
         False
     else
       L (XK.exit 0) ([A.fn 86 [(A.agg [A.flt .f32 a, A.flt .f32 b, A.flt .f32 c]).rop 0], A.ro 3 n (Row.vecs .f32 x y z), A.int .i64 (Int.ofNat n), A.int .i64 (Int.ofNat k), A.ptr 176 0, A.ptr 16 0, A.bool false]) ([some (O.var [A.sl 272 k, A.bool cl, A.flt .f32 cur]), some (O.row 30 3 k (Row.vecs .f32 (fun p => adX a x p) (fun p => adX b y p) fun p => adX c z p)), some (O.var [A.nils, A.bool false, A.flt .f32 0])]) := by kernel_rfl
noncomputable def F95m : List A → List (Option O) → Option R3
  | [.fn 86 [.rop (.agg [.flt .f32 a, .flt .f32 b, .flt .f32 c]) 0], .ro 3 n (.vecs .f32 x y z), .int .i64 l, .int .i64 0, .ptr 176 0, .ptr 16 0, .bool false], [some (.var [.sl 272 0, .bool cl, .flt .f32 cur]), some (.row 30 3 0 g), some (.var [.nils, .bool false, .flt .f32 0])] => some (.ite (decide (l = Int.ofNat n) && Nat.ble n 1000) (.leaf .normal (I95m n cur a b c x y z cl (n)) (J95m n cur a b c x y z cl (n))) .fail)
  | _, _ => none
theorem loop95m : CodeOK Try.prog (fun _ σ => sumAt Try.f85.ntmps 288 [1, 19, 20, 21, 6, 4, 5] [176, 272, 16] F95m σ) (.block 0 (.loop (loopOf Try.f85 0))) := by
  refine block_ok (own := fun _ => true) (lp := (fun _ => none)) (un := 0) (fuel := 1000) cfgMN_ok (lp_none _) fun az os R hF hok => ?_
  unfold F95m at hF
  split at hF
  · rename_i a b c n x y z l cl cur g
    injection hF with hF
    subst hF
    have hg := hok.guard
    have hg' := hg
    simp only [Bool.and_eq_true, Nat.ble_eq, Nat.beq_eq, decide_eq_true_eq] at hg'
    obtain ⟨rfl, hn⟩ := hg'
    refine for_fact (ids := [176, 272, 16]) (fun _ => true) (n) (I95m n cur a b c x y z cl) (J95m n cur a b c x y z cl) _ (.ret) (I95m n cur a b c x y z cl) (I95m n cur a b c x y z cl) (I95m n cur a b c x y z cl (n)) (J95m n cur a b c x y z cl (n)) rfl (by unfold J95m; exact ⟨rfl, ⟨30, _, rfl, .inr rfl, fun p hp => absurd hp (by omega)⟩, rfl, trivial⟩) (fun _ => rfl) (fun _ => rfl) (fun _ => ALe.self _) (fun _ => rfl) (ALe.self _) (OSims.self _) rfl (fun h => by cases h) (fun k hk L h1 h2 h3 => ?_) fun L hL => ?_
    · rw [round95m]
      by_cases hkm : k < n
      · refine condT (lt_dec hkm) ?_
        rw [wrap_succ (by omega)]
        refine condT (lt_dec hkm) ?_
        refine condT (decide_eq_true (by omega)) ?_
        exact h1 hkm rfl _ ⟨rfl, ⟨30, _, rfl, .inr rfl, fun p hp => vec_at (app3 (u := adX a x) rfl hp) (app3 (u := adX b y) rfl hp) (app3 (u := adX c z) rfl hp)⟩, rfl, trivial⟩
      · refine condE (ge_dec (by omega)) ?_
        obtain rfl : k = n := by omega
        exact h3 rfl
    · exact ⟨fun _ => hL.1 hg, fun N _ h => by cases h⟩
  · cases hF
noncomputable def N95m : St → T := nilW 176 0 30 3 (sumAt Try.f85.ntmps 288 [1, 19, 20, 21, 6, 4, 5] [176, 272, 16] F95m)
theorem loopN95m : CodeOK Try.prog (fun _ σ => N95m σ) (.block 0 (.loop (loopOf Try.f85 0))) := nilW_ok loop95m
noncomputable def movOk (n cur a b c : Nat) (x y z : Nat → Nat) : Bool := okW n cur x y z && okW n cur (adX a x) (adX b y) (adX c z)
theorem mov_ok {n cur a b c : Nat} {x y z : Nat → Nat} (h : movOk n cur a b c x y z = true) : okW n cur x y z = true ∧ okW n cur (adX a x) (adX b y) (adX c z) = true ∧ 1 ≤ n ∧ n ≤ 1000 := by
  unfold movOk at h
  simp only [Bool.and_eq_true] at h
  obtain ⟨h1, h2⟩ := h
  exact ⟨h1, h2, by have := okW_n h1; omega, by have := okW_n h1; omega⟩
noncomputable def lp95mT : List (Nat × (St → T)) := [(0, N95m)]
theorem lp95mT_ok : LpOK Try.prog (look lp95mT) (bodyOf Try.f85) := lp_loops (by kernel_rfl) (by kernel_rfl) fun p hp => by
  simp only [lp95mT, List.mem_cons, List.not_mem_nil, or_false] at hp
  rcases hp with rfl
  · exact loopN95m
theorem auto95mT (n cur : Nat) (x y z : Nat → Nat) (cl : Bool) (a b c : Nat) : autoS cfgMN (look lp95mT) false Try.f85 [.agg [.ro 3 n (.vecs .f32 x y z), .bool cl, .flt .f32 cur], .fn 86 [.rop (.agg [.flt .f32 a, .flt .f32 b, .flt .f32 c]) 0]] =
    some (n.ble 4611686018427387000 && (!!okW n cur x y z && (decide (Int.ofNat n = Int.ofNat n) && n.ble 1000 && (n.ble 4611686018427387000 && (!!okW n cur (adX a x) (adX b y) (adX c z) && true)))), A.tup [A.agg [A.ro 3 n (Row.vecs .f32 (fun p => adX a x p) (fun p => adX b y p) fun p => adX c z p), A.bool cl, A.flt .f32 cur], A.bool true]) := by kernel_rfl
noncomputable def s95mT : List A → Option (Bool × A)
  | [.agg [.ro 3 n (.vecs .f32 x y z), .bool cl, .flt .f32 cur], .fn 86 [.rop (.agg [.flt .f32 a, .flt .f32 b, .flt .f32 c]) 0]] => some (movOk n cur a b c x y z, .tup [.agg [.ro 3 n (.vecs .f32 (adX a x) (adX b y) (adX c z)), .bool cl, .flt .f32 cur], .bool true])
  | _ => none
theorem s95mT_at : EnvAt Try.prog 85 s95mT := of_autoS cfgMN_ok lp95mT_ok Try.func85 (by kernel_rfl) (by kernel_rfl) fun ds cc rr h hc => by
  unfold s95mT at h
  split at h
  · rename_i n x y z cl cur a b c
    simp only [Option.some.injEq, Prod.mk.injEq] at h
    obtain ⟨rfl, rfl⟩ := h
    refine auto_fit (auto95mT n cur x y z cl a b c) ?_ ?_
    · rfl
    · obtain ⟨h1, h2, h3, h4⟩ := mov_ok hc
      rw [h1, h2, ble_of (show n ≤ 4611686018427387000 by omega), ble_of (show n ≤ 1000 by omega), decide_eq_true rfl]; rfl
  · cases h
noncomputable def env42T : List (Nat × (List A → Option (Bool × A))) := (85, s95mT) :: env41
theorem env42T_ok : EnvOK Try.prog (look env42T) := (env_cons s95mT_at env41_ok)
noncomputable def cfgMT : Cfg := mkCfg (nilTab tab) fts75 xts (look env42T)
theorem cfgMT_ok : CfgOK Try.prog cfgMT := cfgN_ok' tab_eq fts75_ok xts_ok env42T_ok mixed
theorem auto122T (n cur : Nat) (x y z : Nat → Nat) (cl : Bool) (a b c : Nat) : autoLp cfgMT (fun _ => none) Try.f33 [.agg [.ro 3 n (.vecs .f32 x y z), .bool cl, .flt .f32 cur], .agg [.flt .f32 a, .flt .f32 b, .flt .f32 c]] =
    some (movOk n cur a b c x y z && true, A.tup [A.agg [A.ro 3 n (Row.vecs .f32 (fun p => adX a x p) (fun p => adX b y p) fun p => adX c z p), A.bool cl, A.flt .f32 cur], A.bool true]) := by kernel_rfl
noncomputable def s122T : List A → Option (Bool × A)
  | [.agg [.ro 3 n (.vecs .f32 x y z), .bool cl, .flt .f32 cur], .agg [.flt .f32 a, .flt .f32 b, .flt .f32 c]] => some (movOk n cur a b c x y z, .tup [.agg [.ro 3 n (.vecs .f32 (adX a x) (adX b y) (adX c z)), .bool cl, .flt .f32 cur], .bool true])
  | _ => none
theorem s122T_at : EnvAt Try.prog 33 s122T := of_auto cfgMT_ok (lp_none _) Try.func33 (by kernel_rfl) (by kernel_rfl) fun ds cc rr h hc => by
  unfold s122T at h
  split at h
  · rename_i n x y z cl cur a b c
    simp only [Option.some.injEq, Prod.mk.injEq] at h
    obtain ⟨rfl, rfl⟩ := h
    refine auto_fit (auto122T n cur x y z cl a b c) ?_ ?_
    · rfl
    · rw [hc]; rfl
  · cases h
end Go.Fw.E1

/-
  An answer's struct may be forgotten.
-/
namespace Go.Fw.E1
open Go.Proofs
end Go.Fw.E1

/-
  Fields of lists of wires: contracts.
-/
namespace Go.Fw.E1
open Go.Proofs
noncomputable def flOk (m : Nat) (n : Nat → Nat) (x y z : Nat → Nat → Nat) (cl : Nat → Bool) (cur : Nat → Nat) (p q r : Nat) : Bool := areW m n x y z cur && vfin p q r && fOkA m n x y z cl cur p q r
theorem auto54 (m : Nat) (n : Nat → Nat) (x y z : Nat → Nat → Nat) (cl : Nat → Bool) (cur : Nat → Nat) (p q r : Nat) : autoLp cfg29 (fun _ => none) Try.f15 [.ro 3 m (.wires n x y z cl cur), .agg [.flt .f32 p, .flt .f32 q, .flt .f32 r]] =
    some (m.ble 1048576 && allUpTo (shortW n) m && bif !areW m n x y z cur then true else m.ble 1048576 && allUpTo (smallW n) m && bif !bif vfin p q r then fOkA m n x y z cl cur p q r else false then true else true, A.tup [A.agg [A.flt .f32 (bif !areW m n x y z cur then 0 else bif !bif vfin p q r then fOkA m n x y z cl cur p q r else false then 0 else faX n x y z cl cur p q r 0 m), A.flt .f32 (bif !areW m n x y z cur then 0 else bif !bif vfin p q r then fOkA m n x y z cl cur p q r else false then 0 else faY n x y z cl cur p q r 0 m), A.flt .f32 (bif !areW m n x y z cur then 0 else bif !bif vfin p q r then fOkA m n x y z cl cur p q r else false then 0 else faZ n x y z cl cur p q r 0 m)], A.bool (bif !areW m n x y z cur then false else bif !bif vfin p q r then fOkA m n x y z cl cur p q r else false then false else true)]) := by kernel_rfl
noncomputable def s54 : List A → Option (Bool × A)
  | [.ro 3 m (.wires n x y z cl cur), .agg [.flt .f32 p, .flt .f32 q, .flt .f32 r]] => some (Nat.ble m 1048576 && allUpTo (shortW n) m, .tup [.agg [.flt .f32 (bif flOk m n x y z cl cur p q r then faX n x y z cl cur p q r 0 m else 0), .flt .f32 (bif flOk m n x y z cl cur p q r then faY n x y z cl cur p q r 0 m else 0), .flt .f32 (bif flOk m n x y z cl cur p q r then faZ n x y z cl cur p q r 0 m else 0)], .bool (flOk m n x y z cl cur p q r)])
  | _ => none
theorem s54_at : EnvAt Try.prog 15 s54 := of_auto cfg29_ok (lp_none _) Try.func15 (by kernel_rfl) (by kernel_rfl) fun ds cc rr h hc => by
  unfold s54 at h
  split at h
  · rename_i m n x y z cl cur p q r
    simp only [Option.some.injEq, Prod.mk.injEq] at h
    obtain ⟨rfl, rfl⟩ := h
    refine auto_fit (auto54 m n x y z cl cur p q r) ?_ ?_
    · unfold flOk fOkA
      cases areW m n x y z cur
      · rfl
      · cases vfin p q r
        · rfl
        · simp only [cond_true, Bool.true_and, Bool.not_true, cond_false] <;>
          cases vfin (faX n x y z cl cur p q r 0 m) (faY n x y z cl cur p q r 0 m) (faZ n x y z cl cur p q r 0 m) <;> rfl
    · rw [hc]
      simp only [Bool.and_eq_true] at hc
      cases hA : areW m n x y z cur
      · rfl
      · rw [hc.1, (areW_ok hA).2]
        cases vfin p q r
        · rfl
        · first | rfl | (cases fOkA m n x y z cl cur p q r <;> rfl)
  · cases h
end Go.Fw.E1

/-
  Rings as wires, pairs of rings: contracts.
-/
namespace Go.Fw.E1
open Go.Proofs
noncomputable def ftsI : List (Nat × Func) := [(75, Try.f75)]
theorem ftsI_ok (f : Nat) (fn : Func) (h : (f, fn) ∈ ftsI) : Try.prog.funcs[f]? = some fn ∧ (fn.name == "runtime.NumGoroutine") = false := by
  simp only [ftsI, List.mem_cons, Prod.mk.injEq, List.not_mem_nil, or_false] at h
  obtain ⟨rfl, rfl⟩ := h
  exact ⟨Try.func75, by kernel_rfl⟩
noncomputable def cfgGI : Cfg := mkCfg (nilTab tab) ftsI xts (look env35)
theorem cfgGI_ok : CfgOK Try.prog cfgGI := cfgN_ok' tab_eq ftsI_ok xts_ok env35_ok mixed
noncomputable def lp20T : List (Nat × (St → T)) := [(0, N31)]
theorem lp20T_ok : LpOK Try.prog (look lp20T) (bodyOf Try.f20) := lp_loops (by kernel_rfl) (by kernel_rfl) fun p hp => by
  simp only [lp20T, List.mem_cons, List.not_mem_nil, or_false] at hp
  rcases hp with rfl
  · exact loopN31
theorem auto20T (n : Int) (r h c : Nat) : autoS cfgGI (look lp20T) false Try.f20 [.int .i64 n, .flt .f32 r, .flt .f32 h, .flt .f32 c] =
    some ((!bif bif !inI n (Int.ofNat 3) (Int.ofNat 48) then true else !above r then true else !fin h) && (decide (n = n) && decide (n ≤ 1000) && (n.toNat.ble 4611686018427387000 && ((!!okW n.toNat c (ringX n r) (ringY n r) fun x => h) && true))), A.tup [A.agg [A.ro 3 n.toNat (Row.vecs .f32 (fun i => ringX n r i) (fun i => ringY n r i) fun x => h), A.bool true, A.flt .f32 c], A.bool true]) := by kernel_rfl
noncomputable def s20T : List A → Option (Bool × A)
  | [.int .i64 n, .flt .f32 r, .flt .f32 h, .flt .f32 c] => some (ringOk n r h c, .tup [.agg [.ro 3 n.toNat (.vecs .f32 (ringX n r) (ringY n r) (fun _ => h)), .bool true, .flt .f32 c], .bool true])
  | _ => none
theorem s20T_at : EnvAt Try.prog 20 s20T := of_autoS cfgGI_ok lp20T_ok Try.func20 (by kernel_rfl) (by kernel_rfl) fun ds cc rr h hc => by
  unfold s20T at h
  split at h
  · rename_i n r h c
    simp only [Option.some.injEq, Prod.mk.injEq] at h
    obtain ⟨rfl, rfl⟩ := h
    refine auto_fit (auto20T n r h c) ?_ ?_
    · rfl
    · obtain ⟨h1, h2, h3, h4, h5⟩ := ring_ok hc
      have h1' : inI n (Int.ofNat 3) (Int.ofNat 48) = true := h1
      rw [h1', h2, h3, okW_fin h3, decide_eq_true (show n ≤ 1000 by omega), decide_eq_true rfl, ble_of (show n.toNat ≤ 4611686018427387000 by omega)]; rfl
  · cases h
noncomputable def envA1 : List (Nat × (List A → Option (Bool × A))) := (20, s20T) :: env35
theorem envA1_ok : EnvOK Try.prog (look envA1) := env_cons s20T_at env35_ok
noncomputable def cfgA1 : Cfg := mkCfg tab [] xts (look envA1)
theorem cfgA1_ok : CfgOK Try.prog cfgA1 := cfg_ok tab_eq (no_fts _) xts_ok envA1_ok mixed
theorem auto12 (n : Int) (r g c : Nat) : autoO cfgA1 (fun d => Nat.beq d 45) 0 (fun _ => none) false Try.f12 [.int .i64 n, .flt .f32 r, .flt .f32 g, .flt .f32 c] =
    some (ringOk n r (fop .mul .f32 (can .f32 1056964608) g) c && (ringOk n r (fop .mul .f32 (can .f32 3204448256) g) c && (!!above g && true)), A.tup [A.ro 3 2 (Row.wires (fun i => [n.toNat, n.toNat].getD i 0) (fun i => [ringX n r, ringX n r].getD i fun x => 0) (fun i => [ringY n r, ringY n r].getD i fun x => 0) (fun i => [fun x => fop .mul .f32 (can .f32 1056964608) g, fun x => fop .mul .f32 (can .f32 3204448256) g].getD i fun x => 0) (fun i => [true, true].getD i false) fun i => [c, c].getD i 0), A.bool true]) := by kernel_rfl
noncomputable def hlf (g : Nat) : Nat := fop .mul .f32 (can .f32 1056964608) g
noncomputable def nhlf (g : Nat) : Nat := fop .mul .f32 (can .f32 3204448256) g
noncomputable def pairOk (n : Int) (r g c : Nat) : Bool := ringOk n r (hlf g) c && ringOk n r (nhlf g) c && above g
noncomputable def pairZ (g i : Nat) : Nat := match i with | 0 => hlf g | _ + 1 => nhlf g
noncomputable def s12 : List A → Option (Bool × A)
  | [.int .i64 n, .flt .f32 r, .flt .f32 g, .flt .f32 c] => some (pairOk n r g c, .tup [.ro 3 2 (.wires (fun _ => n.toNat) (fun _ => ringX n r) (fun _ => ringY n r) (fun i _ => pairZ g i) (fun _ => true) (fun _ => c)), .bool true])
  | _ => none
theorem s12_at : EnvAt Try.prog 12 s12 := by
  refine ⟨⟨Try.f12, Try.func12, by kernel_rfl, by kernel_rfl⟩, fun ds cc rr h hc => ?_⟩
  unfold s12 at h
  split at h
  · rename_i n r g c
    simp only [Option.some.injEq, Prod.mk.injEq] at h
    obtain ⟨rfl, rfl⟩ := h
    refine (autoO_ok cfgA1_ok Try.func12 (by kernel_rfl) (lp_none _) (auto12 n r g c) ?_).roT_congr ?_
    · unfold pairOk at hc
      simp only [Bool.and_eq_true] at hc
      have h1 : ringOk n r (fop .mul .f32 (can .f32 1056964608) g) c = true := hc.1.1
      have h2 : ringOk n r (fop .mul .f32 (can .f32 3204448256) g) c = true := hc.1.2
      rw [h1, h2, hc.2]; rfl
    · intro i hi
      match i, hi with
      | 0, _ => rfl
      | 1, _ => rfl
  · cases h
noncomputable def envA2 : List (Nat × (List A → Option (Bool × A))) := (12, s12) :: (15, s54) :: envA1
theorem envA2_ok : EnvOK Try.prog (look envA2) := env_cons s12_at (env_cons s54_at envA1_ok)
noncomputable def cfgA2 : Cfg := mkCfg tab [] xts (look envA2)
theorem cfgA2_ok : CfgOK Try.prog cfgA2 := cfg_ok tab_eq (no_fts _) xts_ok envA2_ok mixed
end Go.Fw.E1

/-
  Lists of wires copied: a contract; fields of all wires: the law.
-/
namespace Go.Fw.E1
open Go.Proofs
noncomputable def env30v : List (Nat × (List A → Option (Bool × A))) := (15, s54) :: env29
theorem env30v_ok : EnvOK Try.prog (look env30v) := (env_cons s54_at env29_ok)
end Go.Fw.E1

/-
  Fluxes: contracts.
-/
namespace Go.Fw.E1
open Go.Proofs
noncomputable def canL (m : Nat) (n : Nat → Nat) (x y z : Nat → Nat → Nat) (cur : Nat → Nat) (th : Nat) (p : Int) : Bool := bif bif areW m n x y z cur then least th else false then inI p 1 8 else false
noncomputable def env31v : List (Nat × (List A → Option (Bool × A))) := env30v
theorem env31v_ok : EnvOK Try.prog (look env31v) := env30v_ok
noncomputable def cfg31v : Cfg := mkCfg tab [] xts (look env31v)
theorem cfg31v_ok : CfgOK Try.prog cfg31v := cfg_ok tab_eq (no_fts _) xts_ok env31v_ok mixed
end Go.Fw.E1

/-
  Fluxes: loops.
-/
namespace Go.Fw.E1
open Go.Proofs
noncomputable def fxW (n : Nat → Nat) (x y z : Nat → Nat → Nat) (cl : Nat → Bool) (cur : Nat → Nat) (n2 : Nat) (x2 y2 z2 : Nat → Nat) (cl2 : Bool) (th pp s : Nat) : Nat → Nat
  | 0 => s
  | k + 1 => fop .add .f32 (fxW n x y z cl cur n2 x2 y2 z2 cl2 th pp s k) (fop .mul .f32 (psW n2 x2 y2 z2 cl2 (n k) (x k) (y k) (z k) (cl k) th pp) (cur k))
noncomputable def I56 (m : Nat) (n : Nat → Nat) (x y z : Nat → Nat → Nat) (cl : Nat → Bool) (cur : Nat → Nat) (n2 cur2 : Nat) (x2 y2 z2 : Nat → Nat) (cl2 : Bool) (th pp s : Nat) (k : Nat) : List A := [.ro 3 m (.wires n x y z cl cur), .int .i64 (Int.ofNat m), .flt .f32 th, .int .i64 (.ofNat pp), .ptr 0 0, .flt .f32 (fxW n x y z cl cur n2 x2 y2 z2 cl2 th pp s k), .int .i64 (Int.ofNat k)]
noncomputable def J56 (m : Nat) (n : Nat → Nat) (x y z : Nat → Nat → Nat) (cl : Nat → Bool) (cur : Nat → Nat) (n2 cur2 : Nat) (x2 y2 z2 : Nat → Nat) (cl2 : Bool) (th pp s : Nat) (k : Nat) : List O := [.var [.ro 3 n2 (.vecs .f32 x2 y2 z2), .bool cl2, .flt .f32 cur2]]
theorem round56 (m : Nat) (n : Nat → Nat) (x y z : Nat → Nat → Nat) (cl : Nat → Bool) (cur : Nat → Nat) (n2 cur2 : Nat) (x2 y2 z2 : Nat → Nat) (cl2 : Bool) (th pp s : Nat) (k : Nat) (L : XK → List A → List (Option O) → Prop) :
    ((exec cfg31v (fun _ => true) (fun _ => none) 0 1000 (loopOf Try.f61 0) (litSt Try.f61.ntmps 400 [31, 32, 2, 3, 5, 10, 33] [0] (I56 m n x y z cl cur n2 cur2 x2 y2 z2 cl2 th pp s k) (J56 m n x y z cl cur n2 cur2 x2 y2 z2 cl2 th pp s k))).rt [31, 32, 2, 3, 5, 10, 33] [0]).Ok L =
    bif decide (Int.ofNat k < Int.ofNat m) then
      bif decide (Int.ofNat k < Int.ofNat m) then
        bif Nat.ble 1 n2 && n2.ble 1000 && Nat.ble 1 (n k) && (n k).ble 1000 && pp.ble 32 && true then
          L (XK.normal) ([A.ro 3 m (Row.wires n x y z cl cur), A.int .i64 (Int.ofNat m), A.flt .f32 th, A.int .i64 (Int.ofNat pp), A.ptr 0 0, A.flt .f32 (fop .add .f32 (fxW n x y z cl cur n2 x2 y2 z2 cl2 th pp s k) (fop .mul .f32 (psW n2 x2 y2 z2 cl2 (n k) (x (Int.ofNat k).toNat) (y (Int.ofNat k).toNat) (z (Int.ofNat k).toNat) (cl k) th pp) (cur k))), A.int .i64 (IntKind.i64.wrap (Int.ofNat k + Int.ofNat 1))]) ([some (O.var [A.ro 3 n2 (Row.vecs .f32 x2 y2 z2), A.bool cl2, A.flt .f32 cur2])])
        else
          False
      else
        False
    else
      L (XK.exit 0) ([A.ro 3 m (Row.wires n x y z cl cur), A.int .i64 (Int.ofNat m), A.flt .f32 th, A.int .i64 (Int.ofNat pp), A.ptr 0 0, A.flt .f32 (fxW n x y z cl cur n2 x2 y2 z2 cl2 th pp s k), A.int .i64 (Int.ofNat k)]) ([some (O.var [A.ro 3 n2 (Row.vecs .f32 x2 y2 z2), A.bool cl2, A.flt .f32 cur2])]) := by kernel_rfl
noncomputable def F56 : List A → List (Option O) → Option R3
  | [.ro 3 m (.wires n x y z cl cur), .int .i64 l, .flt .f32 th, .int .i64 (.ofNat pp), .ptr 0 0, .flt .f32 s, .int .i64 0], [some (.var [.ro 3 n2 (.vecs .f32 x2 y2 z2), .bool cl2, .flt .f32 cur2])] => some (.ite (decide (l = Int.ofNat m) && Nat.ble m 1048576 && allUpTo (smallW n) m && (Nat.ble 1 n2 && Nat.ble n2 1000) && Nat.ble pp 32) (.leaf .normal (I56 m n x y z cl cur n2 cur2 x2 y2 z2 cl2 th pp s (m)) (J56 m n x y z cl cur n2 cur2 x2 y2 z2 cl2 th pp s (m))) .fail)
  | _, _ => none
theorem loop56 : CodeOK Try.prog (fun _ σ => sumAt Try.f61.ntmps 400 [31, 32, 2, 3, 5, 10, 33] [0] F56 σ) (.block 0 (.loop (loopOf Try.f61 0))) := by
  refine block_ok (own := fun _ => true) (lp := (fun _ => none)) (un := 0) (fuel := 1000) cfg31v_ok (lp_none _) fun az os R hF hok => ?_
  unfold F56 at hF
  split at hF
  · rename_i m n x y z cl cur l th pp s n2 x2 y2 z2 cl2 cur2
    injection hF with hF
    subst hF
    have hg := hok.guard
    have hg' := hg
    simp only [Bool.and_eq_true, Nat.ble_eq, Nat.beq_eq, decide_eq_true_eq] at hg'
    obtain ⟨⟨⟨⟨rfl, hm⟩, hsm⟩, h1n, h2n⟩, hpp⟩ := hg'
    refine for_fact (ids := [0]) (fun _ => true) (m) (I56 m n x y z cl cur n2 cur2 x2 y2 z2 cl2 th pp s) (J56 m n x y z cl cur n2 cur2 x2 y2 z2 cl2 th pp s) _ (.ret) (I56 m n x y z cl cur n2 cur2 x2 y2 z2 cl2 th pp s) (I56 m n x y z cl cur n2 cur2 x2 y2 z2 cl2 th pp s) (I56 m n x y z cl cur n2 cur2 x2 y2 z2 cl2 th pp s (m)) (J56 m n x y z cl cur n2 cur2 x2 y2 z2 cl2 th pp s (m)) rfl (OSims.self _) (fun _ => rfl) (fun _ => rfl) (fun _ => ALe.self _) (fun _ => rfl) (ALe.self _) (OSims.self _) rfl (fun h => by cases h) (fun k hk L h1 h2 h3 => ?_) fun L hL => ?_
    · rw [round56]
      by_cases hkm : k < m
      · refine condT (lt_dec hkm) ?_
        obtain ⟨k1, k2⟩ := smallW_ok (W.at_ok hsm hkm)
        rw [wrap_succ (by omega)]
        refine condT (lt_dec hkm) ?_
        refine condT (by rw [ble_of h1n, ble_of h2n, ble_of k1, ble_of k2, ble_of hpp]; rfl) ?_
        exact h1 hkm rfl _ (OSims.self (J56 m n x y z cl cur n2 cur2 x2 y2 z2 cl2 th pp s (k + 1)))
      · refine condE (ge_dec (by omega)) ?_
        obtain rfl : k = m := by omega
        exact h3 rfl
    · exact ⟨fun _ => hL.1 hg, fun N _ h => by cases h⟩
  · cases hF
noncomputable def flxOk (m : Nat) (n : Nat → Nat) (x y z : Nat → Nat → Nat) (cl : Nat → Bool) (cur : Nat → Nat) (n2 cur2 : Nat) (x2 y2 z2 : Nat → Nat) (cl2 : Bool) (th pp : Nat) : Bool := canL m n x y z cur th (Int.ofNat pp) && okW n2 cur2 x2 y2 z2
end Go.Fw.E1

/-
  Fluxes: contracts of the reference and the program.
-/
namespace Go.Fw.E1
open Go.Proofs
theorem inI8 {pp : Nat} (h : inI (Int.ofNat pp) 1 8 = true) : pp ≤ 32 := by
  unfold inI at h
  cases h1 : decide (Int.ofNat pp ≥ 1)
  · rw [h1] at h; cases h
  · rw [h1] at h
    have := of_decide_eq_true h
    simp at this
    omega
theorem inI_neg (pp : Nat) : inI (Int.negSucc pp) 1 8 = false := by
  unfold inI
  rw [decide_eq_false (show ¬ (Int.negSucc pp ≥ 1) by omega)]; rfl
noncomputable def lp56a : List (Nat × (St → T)) := [(0, sumAt Try.f61.ntmps 400 [31, 32, 2, 3, 5, 10, 33] [0] F56)]
theorem lp56a_ok : LpOK Try.prog (look lp56a) (bodyOf Try.f61) := lp_loops (by kernel_rfl) (by kernel_rfl) fun p hp => by
  simp only [lp56a, List.mem_cons, List.not_mem_nil, or_false] at hp
  rcases hp with rfl
  · exact loop56
theorem auto56a (m : Nat) (n : Nat → Nat) (x y z : Nat → Nat → Nat) (cl : Nat → Bool) (cur : Nat → Nat) (n2 cur2 : Nat) (x2 y2 z2 : Nat → Nat) (cl2 : Bool) (th pp : Nat) : autoLp cfg31v (look lp56a) Try.f61 [.ro 3 m (.wires n x y z cl cur), .agg [.ro 3 n2 (.vecs .f32 x2 y2 z2), .bool cl2, .flt .f32 cur2], .flt .f32 th, .int .i64 (.ofNat pp)] =
    some (m.ble 1048576 && allUpTo (shortW n) m && ((n2.ble 4611686018427387000 || !(!areW m n x y z cur) == false) && bif bif bif bif !areW m n x y z cur then true else !okW n2 cur2 x2 y2 z2 then true else !least th then true else !inI (Int.ofNat pp) (Int.ofNat 1) (Int.ofNat 8) then true else decide (Int.ofNat m = Int.ofNat m) && m.ble 1048576 && allUpTo (smallW n) m && (Nat.ble 1 n2 && n2.ble 1000) && pp.ble 32 && true), A.tup [A.flt .f32 (bif bif bif bif !areW m n x y z cur then true else !okW n2 cur2 x2 y2 z2 then true else !least th then true else !inI (Int.ofNat pp) (Int.ofNat 1) (Int.ofNat 8) then can .f32 0 else bif fin (fxW n x y z cl cur n2 x2 y2 z2 cl2 th pp (can .f32 0) m) then fxW n x y z cl cur n2 x2 y2 z2 cl2 th pp (can .f32 0) m else can .f32 0), A.bool (bif bif bif bif !areW m n x y z cur then true else !okW n2 cur2 x2 y2 z2 then true else !least th then true else !inI (Int.ofNat pp) (Int.ofNat 1) (Int.ofNat 8) then false else fin (fxW n x y z cl cur n2 x2 y2 z2 cl2 th pp (can .f32 0) m))]) := by kernel_rfl
noncomputable def s56a : List A → Option (Bool × A)
  | [.ro 3 m (.wires n x y z cl cur), .agg [.ro 3 n2 (.vecs .f32 x2 y2 z2), .bool cl2, .flt .f32 cur2], .flt .f32 th, .int .i64 (.ofNat pp)] => some (Nat.ble m 1048576 && allUpTo (shortW n) m && Nat.ble n2 1048576, .tup [.flt .f32 (bif flxOk m n x y z cl cur n2 cur2 x2 y2 z2 cl2 th pp && fin (fxW n x y z cl cur n2 x2 y2 z2 cl2 th pp (can .f32 0) m) then fxW n x y z cl cur n2 x2 y2 z2 cl2 th pp (can .f32 0) m else can .f32 0), .bool (flxOk m n x y z cl cur n2 cur2 x2 y2 z2 cl2 th pp && fin (fxW n x y z cl cur n2 x2 y2 z2 cl2 th pp (can .f32 0) m))])
  | _ => none
theorem s56a_at : EnvAt Try.prog 61 s56a := of_auto cfg31v_ok lp56a_ok Try.func61 (by kernel_rfl) (by kernel_rfl) fun ds cc rr h hc => by
  unfold s56a at h
  split at h
  · rename_i m n x y z cl cur n2 x2 y2 z2 cl2 cur2 th pp
    simp only [Option.some.injEq, Prod.mk.injEq] at h
    obtain ⟨rfl, rfl⟩ := h
    refine auto_fit (auto56a m n x y z cl cur n2 cur2 x2 y2 z2 cl2 th pp) ?_ ?_
    · have e : inI (Int.ofNat pp) (Int.ofNat 1) (Int.ofNat 8) = inI (Int.ofNat pp) 1 8 := rfl
      rw [e]
      unfold flxOk canL
      cases areW m n x y z cur <;> cases okW n2 cur2 x2 y2 z2 <;> cases least th <;> cases inI (Int.ofNat pp) 1 8 <;> rfl
    · simp only [Bool.and_eq_true, Nat.ble_eq] at hc
      obtain ⟨⟨hm, hsh⟩, hn2⟩ := hc
      rw [ble_of hm, hsh, ble_of (show n2 ≤ 4611686018427387000 by omega)]
      have e : inI (Int.ofNat pp) (Int.ofNat 1) (Int.ofNat 8) = inI (Int.ofNat pp) 1 8 := rfl
      rw [e]
      cases hA : areW m n x y z cur
      · rfl
      · cases hB : okW n2 cur2 x2 y2 z2
        · rfl
        · cases least th
          · rfl
          · cases hI : inI (Int.ofNat pp) 1 8
            · rfl
            · have k4 := okW_n hB
              rw [(areW_ok hA).2, ble_of (show 1 ≤ n2 by omega), ble_of (show n2 ≤ 1000 by omega), ble_of (inI8 hI), decide_eq_true rfl]; rfl
  · cases h
theorem auto56b (m : Nat) (n : Nat → Nat) (x y z : Nat → Nat → Nat) (cl : Nat → Bool) (cur : Nat → Nat) (n2 cur2 : Nat) (x2 y2 z2 : Nat → Nat) (cl2 : Bool) (th pp : Nat) : autoS cfg31v (fun _ => none) true Try.f61 [.ro 3 m (.wires n x y z cl cur), .agg [.ro 3 n2 (.vecs .f32 x2 y2 z2), .bool cl2, .flt .f32 cur2], .flt .f32 th, .int .i64 (.negSucc pp)] =
    some (m.ble 1048576 && allUpTo (shortW n) m && ((n2.ble 4611686018427387000 || !(!areW m n x y z cur) == false) && ((bif bif bif !areW m n x y z cur then true else !okW n2 cur2 x2 y2 z2 then true else !least th then true else !inI (Int.negSucc pp) (Int.ofNat 1) (Int.ofNat 8)) && true)), A.tup [A.flt .f32 (can .f32 0), A.bool false]) := by kernel_rfl
noncomputable def s56b : List A → Option (Bool × A)
  | [.ro 3 m (.wires n x y z cl cur), .agg [.ro 3 n2 (.vecs .f32 x2 y2 z2), .bool cl2, .flt .f32 cur2], .flt .f32 th, .int .i64 (.negSucc pp)] => some (Nat.ble m 1048576 && allUpTo (shortW n) m && Nat.ble n2 1048576, .tup [.flt .f32 (can .f32 0), .bool false])
  | _ => none
theorem s56b_at : EnvAt Try.prog 61 s56b := of_autoS cfg31v_ok (lp_none _) Try.func61 (by kernel_rfl) (by kernel_rfl) fun ds cc rr h hc => by
  unfold s56b at h
  split at h
  · rename_i m n x y z cl cur n2 x2 y2 z2 cl2 cur2 th pp
    simp only [Option.some.injEq, Prod.mk.injEq] at h
    obtain ⟨rfl, rfl⟩ := h
    refine auto_fit (auto56b m n x y z cl cur n2 cur2 x2 y2 z2 cl2 th pp) ?_ ?_
    · simp only [Bool.cond_self]
    · simp only [Bool.and_eq_true, Nat.ble_eq] at hc
      obtain ⟨⟨hm, hsh⟩, hn2⟩ := hc
      rw [ble_of hm, hsh, ble_of (show n2 ≤ 4611686018427387000 by omega)]
      have e : inI (Int.negSucc pp) (Int.ofNat 1) (Int.ofNat 8) = false := inI_neg pp
      rw [e]
      cases areW m n x y z cur <;> cases okW n2 cur2 x2 y2 z2 <;> cases least th <;> rfl
  · cases h
noncomputable def s56 : List A → Option (Bool × A)
  | [u, v, t, .int .i64 (.ofNat pp)] => s56a [u, v, t, .int .i64 (.ofNat pp)]
  | ds => s56b ds
theorem s56_at : EnvAt Try.prog 61 s56 := by
  refine ⟨s56a_at.1, fun ds c r h hc => ?_⟩
  unfold s56 at h
  split at h
  · exact s56a_at.2 _ _ _ h hc
  · exact s56b_at.2 _ _ _ h hc
end Go.Fw.E1

/-
  Along paths: the inner loops.
-/
namespace Go.Fw.E1
open Go.Proofs
noncomputable def atC (a u pp k : Nat) : Nat := fop .add .f32 a (fop .mul .f32 u (mid k pp))
noncomputable def okP (m : Nat) (n : Nat → Nat) (x y z : Nat → Nat → Nat) (cl : Nat → Bool) (cur : Nat → Nat) (a0 a1 a2 u0 u1 u2 pp k : Nat) : Bool := bif vfin (atC a0 u0 pp k) (atC a1 u1 pp k) (atC a2 u2 pp k) then fOkA m n x y z cl cur (atC a0 u0 pp k) (atC a1 u1 pp k) (atC a2 u2 pp k) else false
noncomputable def innR (m : Nat) (n : Nat → Nat) (x y z : Nat → Nat → Nat) (cl : Nat → Bool) (cur : Nat → Nat) (p q r v0 v1 v2 : Nat) : Nat := inn (faX n x y z cl cur p q r (st0 p q r p) m) (faY n x y z cl cur p q r (st0 p q r q) m) (faZ n x y z cl cur p q r (st0 p q r r) m) v0 v1 v2
noncomputable def innP (m : Nat) (n : Nat → Nat) (x y z : Nat → Nat → Nat) (cl : Nat → Bool) (cur : Nat → Nat) (p q r v0 v1 v2 : Nat) : Nat := inn (faX n x y z cl cur p q r 0 m) (faY n x y z cl cur p q r 0 m) (faZ n x y z cl cur p q r 0 m) v0 v1 v2
noncomputable def awS (m : Nat) (n : Nat → Nat) (x y z : Nat → Nat → Nat) (cl : Nat → Bool) (cur : Nat → Nat) (a0 a1 a2 u0 u1 u2 v0 v1 v2 pp s : Nat) : Nat → Nat
  | 0 => s
  | k + 1 => fop .add .f32 (awS m n x y z cl cur a0 a1 a2 u0 u1 u2 v0 v1 v2 pp s k) (innR m n x y z cl cur (atC a0 u0 pp k) (atC a1 u1 pp k) (atC a2 u2 pp k) v0 v1 v2)
noncomputable def apS (m : Nat) (n : Nat → Nat) (x y z : Nat → Nat → Nat) (cl : Nat → Bool) (cur : Nat → Nat) (a0 a1 a2 u0 u1 u2 v0 v1 v2 pp s : Nat) : Nat → Nat
  | 0 => s
  | k + 1 => fop .add .f32 (apS m n x y z cl cur a0 a1 a2 u0 u1 u2 v0 v1 v2 pp s k) (innP m n x y z cl cur (atC a0 u0 pp k) (atC a1 u1 pp k) (atC a2 u2 pp k) v0 v1 v2)
noncomputable def I60k (m : Nat) (n : Nat → Nat) (x y z : Nat → Nat → Nat) (cl : Nat → Bool) (cur : Nat → Nat) (gg : Nat → Nat → Nat) (l a b c u v w pp s i e6 : Nat) (k : Nat) : List A := [.ro 3 m (.wires n x y z cl cur), .int .i64 (.ofNat pp), .ptr 384 0, .int .i64 (Int.ofNat pp), .int .i64 (Int.ofNat k), .flt .f32 (apS m n x y z cl cur a b c (fop .sub .f32 u a) (fop .sub .f32 v b) (fop .sub .f32 w c) (fop .mul .f32 (fop .sub .f32 u a) (inv pp)) (fop .mul .f32 (fop .sub .f32 v b) (inv pp)) (fop .mul .f32 (fop .sub .f32 w c) (inv pp)) pp s k), .sl 288 l, .int .i64 (Int.ofNat l), .int .i64 (.ofNat i), .flt .f32 e6, .bool false]
noncomputable def J60k (m : Nat) (n : Nat → Nat) (x y z : Nat → Nat → Nat) (cl : Nat → Bool) (cur : Nat → Nat) (gg : Nat → Nat → Nat) (l a b c u v w pp s i e6 : Nat) (k : Nat) : List O := [.var [.flt .f32 a, .flt .f32 b, .flt .f32 c, .flt .f32 u, .flt .f32 v, .flt .f32 w], .row 0 6 l (.flns .f32 6 gg)]
theorem round60k (m : Nat) (n : Nat → Nat) (x y z : Nat → Nat → Nat) (cl : Nat → Bool) (cur : Nat → Nat) (gg : Nat → Nat → Nat) (l a b c u v w pp s i e6 : Nat) (k : Nat) (L : XK → List A → List (Option O) → Prop) :
    ((exec cfg31v (fun _ => true) (fun _ => none) 0 1000 (loopOf Try.f32 2) (litSt Try.f32.ntmps 448 [0, 2, 10, 34, 35, 8, 28, 29, 30, 6, 7] [384, 288] (I60k m n x y z cl cur gg l a b c u v w pp s i e6 k) (J60k m n x y z cl cur gg l a b c u v w pp s i e6 k))).rt [0, 2, 10, 34, 35, 8, 28, 29, 30, 6, 7] [384, 288]).Ok L =
    bif decide (Int.ofNat k < Int.ofNat pp) then
      bif m.ble 1048576 && allUpTo (smallW n) m then
        bif !bif vfin (pcS a b c u v w pp k 3) (pcS a b c u v w pp k 4) (pcS a b c u v w pp k 5) then fOkA m n x y z cl cur (pcS a b c u v w pp k 3) (pcS a b c u v w pp k 4) (pcS a b c u v w pp k 5) else false then
          L (XK.ret) ([A.ro 3 m (Row.wires n x y z cl cur), A.int .i64 (Int.ofNat pp), A.ptr 384 0, A.int .i64 (Int.ofNat pp), A.int .i64 (Int.ofNat k), A.flt .f32 (apS m n x y z cl cur a b c (fop .sub .f32 u a) (fop .sub .f32 v b) (fop .sub .f32 w c) (fop .mul .f32 (fop .sub .f32 u a) (inv pp)) (fop .mul .f32 (fop .sub .f32 v b) (inv pp)) (fop .mul .f32 (fop .sub .f32 w c) (inv pp)) pp s k), A.sl 288 l, A.int .i64 (Int.ofNat l), A.int .i64 (Int.ofNat i), A.flt .f32 (can .f32 0), A.bool false]) ([some (O.var [A.flt .f32 a, A.flt .f32 b, A.flt .f32 c, A.flt .f32 u, A.flt .f32 v, A.flt .f32 w]), some (O.row 0 6 l (Row.flns .f32 6 gg))])
        else
          L (XK.normal) ([A.ro 3 m (Row.wires n x y z cl cur), A.int .i64 (Int.ofNat pp), A.ptr 384 0, A.int .i64 (Int.ofNat pp), A.int .i64 (IntKind.i64.wrap (Int.ofNat k + Int.ofNat 1)), A.flt .f32 (fop .add .f32 (apS m n x y z cl cur a b c (fop .sub .f32 u a) (fop .sub .f32 v b) (fop .sub .f32 w c) (fop .mul .f32 (fop .sub .f32 u a) (inv pp)) (fop .mul .f32 (fop .sub .f32 v b) (inv pp)) (fop .mul .f32 (fop .sub .f32 w c) (inv pp)) pp s k) (inn (faX n x y z cl cur (pcS a b c u v w pp k 3) (pcS a b c u v w pp k 4) (pcS a b c u v w pp k 5) 0 m) (faY n x y z cl cur (pcS a b c u v w pp k 3) (pcS a b c u v w pp k 4) (pcS a b c u v w pp k 5) 0 m) (faZ n x y z cl cur (pcS a b c u v w pp k 3) (pcS a b c u v w pp k 4) (pcS a b c u v w pp k 5) 0 m) (pcS a b c u v w pp 0 0) (pcS a b c u v w pp 0 1) (pcS a b c u v w pp 0 2))), A.sl 288 l, A.int .i64 (Int.ofNat l), A.int .i64 (Int.ofNat i), A.flt .f32 e6, A.bool false]) ([some (O.var [A.flt .f32 a, A.flt .f32 b, A.flt .f32 c, A.flt .f32 u, A.flt .f32 v, A.flt .f32 w]), some (O.row 0 6 l (Row.flns .f32 6 gg))])
      else
        False
    else
      L (XK.exit 2) ([A.ro 3 m (Row.wires n x y z cl cur), A.int .i64 (Int.ofNat pp), A.ptr 384 0, A.int .i64 (Int.ofNat pp), A.int .i64 (Int.ofNat k), A.flt .f32 (apS m n x y z cl cur a b c (fop .sub .f32 u a) (fop .sub .f32 v b) (fop .sub .f32 w c) (fop .mul .f32 (fop .sub .f32 u a) (inv pp)) (fop .mul .f32 (fop .sub .f32 v b) (inv pp)) (fop .mul .f32 (fop .sub .f32 w c) (inv pp)) pp s k), A.sl 288 l, A.int .i64 (Int.ofNat l), A.int .i64 (Int.ofNat i), A.flt .f32 e6, A.bool false]) ([some (O.var [A.flt .f32 a, A.flt .f32 b, A.flt .f32 c, A.flt .f32 u, A.flt .f32 v, A.flt .f32 w]), some (O.row 0 6 l (Row.flns .f32 6 gg))]) := by kernel_rfl
noncomputable def F60k : List A → List (Option O) → Option R3
  | [.ro 3 m (.wires n x y z cl cur), .int .i64 (.ofNat pp), .ptr 384 0, .int .i64 q, .int .i64 0, .flt .f32 s, .sl 288 l, .int .i64 l2, .int .i64 (.ofNat i), .flt .f32 e6, .bool false], [some (.var [.flt .f32 a, .flt .f32 b, .flt .f32 c, .flt .f32 u, .flt .f32 v, .flt .f32 w]), some (.row 0 6 l3 (.flns .f32 6 gg))] => some (.ite (decide (q = Int.ofNat pp) && decide (l2 = Int.ofNat l) && Nat.beq l l3 && Nat.ble m 1048576 && allUpTo (smallW n) m && Nat.ble pp 32) (.ite (allUpTo (okP m n x y z cl cur a b c (fop .sub .f32 u a) (fop .sub .f32 v b) (fop .sub .f32 w c) pp) (pp)) (.leaf .normal (I60k m n x y z cl cur gg l a b c u v w pp s i e6 (pp)) (J60k m n x y z cl cur gg l a b c u v w pp s i e6 (pp))) (.leaf (.ret) ((fun k => [.ro 3 m (.wires n x y z cl cur), .int .i64 (.ofNat pp), .ptr 384 0, .int .i64 (Int.ofNat pp), .int .i64 (Int.ofNat k), .flt .f32 (apS m n x y z cl cur a b c (fop .sub .f32 u a) (fop .sub .f32 v b) (fop .sub .f32 w c) (fop .mul .f32 (fop .sub .f32 u a) (inv pp)) (fop .mul .f32 (fop .sub .f32 v b) (inv pp)) (fop .mul .f32 (fop .sub .f32 w c) (inv pp)) pp s k), .sl 288 l, .int .i64 (Int.ofNat l), .int .i64 (.ofNat i), .flt .f32 (can .f32 0), .bool false]) (firstIdx (okP m n x y z cl cur a b c (fop .sub .f32 u a) (fop .sub .f32 v b) (fop .sub .f32 w c) pp) (pp))) (J60k m n x y z cl cur gg l a b c u v w pp s i e6 (firstIdx (okP m n x y z cl cur a b c (fop .sub .f32 u a) (fop .sub .f32 v b) (fop .sub .f32 w c) pp) (pp))))) .fail)
  | _, _ => none
theorem loop60k : CodeOK Try.prog (fun _ σ => sumAt Try.f32.ntmps 448 [0, 2, 10, 34, 35, 8, 28, 29, 30, 6, 7] [384, 288] F60k σ) (.block 2 (.loop (loopOf Try.f32 2))) := by
  refine block_ok (own := fun _ => true) (lp := (fun _ => none)) (un := 0) (fuel := 1000) cfg31v_ok (lp_none _) fun az os R hF hok => ?_
  unfold F60k at hF
  split at hF
  · rename_i m n x y z cl cur pp q s l l2 i e6 a b c u v w l3 gg
    injection hF with hF
    subst hF
    have hg := hok.guard
    have hg' := hg
    simp only [Bool.and_eq_true, Nat.ble_eq, Nat.beq_eq, decide_eq_true_eq] at hg'
    obtain ⟨⟨⟨⟨⟨rfl, rfl⟩, rfl⟩, hm⟩, hsm⟩, hpp⟩ := hg'
    refine for_fact (ids := [384, 288]) (okP m n x y z cl cur a b c (fop .sub .f32 u a) (fop .sub .f32 v b) (fop .sub .f32 w c) pp) (pp) (I60k m n x y z cl cur gg l a b c u v w pp s i e6) (J60k m n x y z cl cur gg l a b c u v w pp s i e6) _ (.ret) (fun k => [.ro 3 m (.wires n x y z cl cur), .int .i64 (.ofNat pp), .ptr 384 0, .int .i64 (Int.ofNat pp), .int .i64 (Int.ofNat k), .flt .f32 (apS m n x y z cl cur a b c (fop .sub .f32 u a) (fop .sub .f32 v b) (fop .sub .f32 w c) (fop .mul .f32 (fop .sub .f32 u a) (inv pp)) (fop .mul .f32 (fop .sub .f32 v b) (inv pp)) (fop .mul .f32 (fop .sub .f32 w c) (inv pp)) pp s k), .sl 288 l, .int .i64 (Int.ofNat l), .int .i64 (.ofNat i), .flt .f32 (can .f32 0), .bool false]) (fun k => [.ro 3 m (.wires n x y z cl cur), .int .i64 (.ofNat pp), .ptr 384 0, .int .i64 (Int.ofNat pp), .int .i64 (Int.ofNat k), .flt .f32 (apS m n x y z cl cur a b c (fop .sub .f32 u a) (fop .sub .f32 v b) (fop .sub .f32 w c) (fop .mul .f32 (fop .sub .f32 u a) (inv pp)) (fop .mul .f32 (fop .sub .f32 v b) (inv pp)) (fop .mul .f32 (fop .sub .f32 w c) (inv pp)) pp s k), .sl 288 l, .int .i64 (Int.ofNat l), .int .i64 (.ofNat i), .flt .f32 (can .f32 0), .bool false]) (I60k m n x y z cl cur gg l a b c u v w pp s i e6 (pp)) (J60k m n x y z cl cur gg l a b c u v w pp s i e6 (pp)) rfl (OSims.self _) (fun _ => rfl) (fun _ => rfl) (fun _ => ALe.self _) (fun _ => rfl) (ALe.self _) (OSims.self _) rfl (fun h => by cases h) (fun k hk L h1 h2 h3 => ?_) fun L hL => ?_
    · rw [round60k]
      by_cases hkm : k < pp
      · refine condT (lt_dec hkm) ?_
        rw [wrap_succ (by omega)]
        refine condT (by rw [ble_of hm, hsm]; rfl) ?_
        show cond (!(okP m n x y z cl cur a b c (fop .sub .f32 u a) (fop .sub .f32 v b) (fop .sub .f32 w c) pp k)) _ _
        cases hs : okP m n x y z cl cur a b c (fop .sub .f32 u a) (fop .sub .f32 v b) (fop .sub .f32 w c) pp k
        · exact h2 hkm hs
        · exact h1 hkm hs _ (OSims.self (J60k m n x y z cl cur gg l a b c u v w pp s i e6 (k + 1)))
      · refine condE (ge_dec (by omega)) ?_
        obtain rfl : k = pp := by omega
        exact h3 rfl
    · exact ⟨fun h => (hL.1 hg).1 h, fun N hN hf hall => by
        have := (hL.1 hg).2 (allUpTo_false hN hf)
        rw [firstIdx_eq hN hf hall] at this
        exact this⟩
  · cases hF
end Go.Fw.E1

/-
  Along paths: the outer loops.
-/
namespace Go.Fw.E1
open Go.Proofs
noncomputable def arR (m : Nat) (n : Nat → Nat) (x y z : Nat → Nat → Nat) (cl : Nat → Bool) (cur : Nat → Nat) (gg : Nat → Nat → Nat) (pp s : Nat) : Nat → Nat
  | 0 => s
  | i + 1 => awS m n x y z cl cur (gg i 0) (gg i 1) (gg i 2) (fop .sub .f32 (gg i 3) (gg i 0)) (fop .sub .f32 (gg i 4) (gg i 1)) (fop .sub .f32 (gg i 5) (gg i 2)) (fop .mul .f32 (fop .sub .f32 (gg i 3) (gg i 0)) (inv pp)) (fop .mul .f32 (fop .sub .f32 (gg i 4) (gg i 1)) (inv pp)) (fop .mul .f32 (fop .sub .f32 (gg i 5) (gg i 2)) (inv pp)) pp (arR m n x y z cl cur gg pp s i) pp
noncomputable def apR (m : Nat) (n : Nat → Nat) (x y z : Nat → Nat → Nat) (cl : Nat → Bool) (cur : Nat → Nat) (gg : Nat → Nat → Nat) (pp s : Nat) : Nat → Nat
  | 0 => s
  | i + 1 => apS m n x y z cl cur (gg i 0) (gg i 1) (gg i 2) (fop .sub .f32 (gg i 3) (gg i 0)) (fop .sub .f32 (gg i 4) (gg i 1)) (fop .sub .f32 (gg i 5) (gg i 2)) (fop .mul .f32 (fop .sub .f32 (gg i 3) (gg i 0)) (inv pp)) (fop .mul .f32 (fop .sub .f32 (gg i 4) (gg i 1)) (inv pp)) (fop .mul .f32 (fop .sub .f32 (gg i 5) (gg i 2)) (inv pp)) pp (apR m n x y z cl cur gg pp s i) pp
noncomputable def okI (m : Nat) (n : Nat → Nat) (x y z : Nat → Nat → Nat) (cl : Nat → Bool) (cur : Nat → Nat) (gg : Nat → Nat → Nat) (pp i : Nat) : Bool := allUpTo (okP m n x y z cl cur (gg i 0) (gg i 1) (gg i 2) (fop .sub .f32 (gg i 3) (gg i 0)) (fop .sub .f32 (gg i 4) (gg i 1)) (fop .sub .f32 (gg i 5) (gg i 2)) pp) pp
noncomputable def lpi60i : List (Nat × (St → T)) := [(2, sumAt Try.f32.ntmps 448 [0, 2, 10, 34, 35, 8, 28, 29, 30, 6, 7] [384, 288] F60k)]
theorem lpi60i_ok : LpOK Try.prog (look lpi60i) (loopOf Try.f32 0) := lp_in (lp_loops (by kernel_rfl) (by kernel_rfl) fun p hp => by
  simp only [lpi60i, List.mem_cons, List.not_mem_nil, or_false] at hp
  rcases hp with rfl
  · exact loop60k) _
noncomputable def I60i (m : Nat) (n : Nat → Nat) (x y z : Nat → Nat → Nat) (cl : Nat → Bool) (cur : Nat → Nat) (gg : Nat → Nat → Nat) (l pp s e6 : Nat) (k : Nat) : List A := [.ro 3 m (.wires n x y z cl cur), .int .i64 (.ofNat pp), .sl 288 l, .int .i64 (Int.ofNat l), .int .i64 (Int.ofNat k), .flt .f32 (apR m n x y z cl cur gg pp s k), .flt .f32 e6, .bool false]
noncomputable def J60i (m : Nat) (n : Nat → Nat) (x y z : Nat → Nat → Nat) (cl : Nat → Bool) (cur : Nat → Nat) (gg : Nat → Nat → Nat) (l pp s e6 : Nat) (k : Nat) : List O := [.row 0 6 l (.flns .f32 6 gg)]
theorem round60i (m : Nat) (n : Nat → Nat) (x y z : Nat → Nat → Nat) (cl : Nat → Bool) (cur : Nat → Nat) (gg : Nat → Nat → Nat) (l pp s e6 : Nat) (k : Nat) (L : XK → List A → List (Option O) → Prop) :
    ((exec cfg31v (fun _ => true) (look lpi60i) 0 1000 (loopOf Try.f32 0) (litSt Try.f32.ntmps 336 [0, 2, 28, 29, 30, 8, 6, 7] [288] (I60i m n x y z cl cur gg l pp s e6 k) (J60i m n x y z cl cur gg l pp s e6 k))).rt [0, 2, 28, 29, 30, 8, 6, 7] [288]).Ok L =
    bif decide (Int.ofNat k < Int.ofNat l) then
      bif decide (Int.ofNat k < Int.ofNat l) then
        bif decide (Int.ofNat pp = Int.ofNat pp) && decide (Int.ofNat l = Int.ofNat l) && l.beq l && m.ble 1048576 && allUpTo (smallW n) m && pp.ble 32 then
          bif allUpTo (okP m n x y z cl cur (gg (Int.ofNat k).toNat 0) (gg (Int.ofNat k).toNat 1) (gg (Int.ofNat k).toNat 2) (fop .sub .f32 (gg (Int.ofNat k).toNat 3) (gg (Int.ofNat k).toNat 0)) (fop .sub .f32 (gg (Int.ofNat k).toNat 4) (gg (Int.ofNat k).toNat 1)) (fop .sub .f32 (gg (Int.ofNat k).toNat 5) (gg (Int.ofNat k).toNat 2)) pp) pp then
            L (XK.normal) ([A.ro 3 m (Row.wires n x y z cl cur), A.int .i64 (Int.ofNat pp), A.sl 288 l, A.int .i64 (Int.ofNat l), A.int .i64 (IntKind.i64.wrap (Int.ofNat k + Int.ofNat 1)), A.flt .f32 (apS m n x y z cl cur (gg k 0) (gg k 1) (gg k 2) (fop .sub .f32 (gg k 3) (gg k 0)) (fop .sub .f32 (gg k 4) (gg k 1)) (fop .sub .f32 (gg k 5) (gg k 2)) (fop .mul .f32 (fop .sub .f32 (gg k 3) (gg k 0)) (inv pp)) (fop .mul .f32 (fop .sub .f32 (gg k 4) (gg k 1)) (inv pp)) (fop .mul .f32 (fop .sub .f32 (gg k 5) (gg k 2)) (inv pp)) pp (apR m n x y z cl cur gg pp s k) pp), A.flt .f32 e6, A.bool false]) ([some (O.row 0 6 l (Row.flns .f32 6 gg))])
          else
            L (XK.ret) ([A.ro 3 m (Row.wires n x y z cl cur), A.int .i64 (Int.ofNat pp), A.sl 288 l, A.int .i64 (Int.ofNat l), A.int .i64 (Int.ofNat k), A.flt .f32 (apS m n x y z cl cur (gg k 0) (gg k 1) (gg k 2) (fop .sub .f32 (gg k 3) (gg k 0)) (fop .sub .f32 (gg k 4) (gg k 1)) (fop .sub .f32 (gg k 5) (gg k 2)) (fop .mul .f32 (fop .sub .f32 (gg k 3) (gg k 0)) (inv pp)) (fop .mul .f32 (fop .sub .f32 (gg k 4) (gg k 1)) (inv pp)) (fop .mul .f32 (fop .sub .f32 (gg k 5) (gg k 2)) (inv pp)) pp (apR m n x y z cl cur gg pp s k) (Fw.firstIdx (okP m n x y z cl cur (gg (Int.ofNat k).toNat 0) (gg (Int.ofNat k).toNat 1) (gg (Int.ofNat k).toNat 2) (fop .sub .f32 (gg (Int.ofNat k).toNat 3) (gg (Int.ofNat k).toNat 0)) (fop .sub .f32 (gg (Int.ofNat k).toNat 4) (gg (Int.ofNat k).toNat 1)) (fop .sub .f32 (gg (Int.ofNat k).toNat 5) (gg (Int.ofNat k).toNat 2)) pp) pp)), A.flt .f32 (can .f32 0), A.bool false]) ([some (O.row 0 6 l (Row.flns .f32 6 gg))])
        else
          False
      else
        False
    else
      L (XK.exit 0) ([A.ro 3 m (Row.wires n x y z cl cur), A.int .i64 (Int.ofNat pp), A.sl 288 l, A.int .i64 (Int.ofNat l), A.int .i64 (Int.ofNat k), A.flt .f32 (apR m n x y z cl cur gg pp s k), A.flt .f32 e6, A.bool false]) ([some (O.row 0 6 l (Row.flns .f32 6 gg))]) := by kernel_rfl
noncomputable def F60i : List A → List (Option O) → Option R3
  | [.ro 3 m (.wires n x y z cl cur), .int .i64 (.ofNat pp), .sl 288 l, .int .i64 l2, .int .i64 0, .flt .f32 s, .flt .f32 e6, .bool false], [some (.row 0 6 l3 (.flns .f32 6 gg))] => some (.ite (decide (l2 = Int.ofNat l) && Nat.beq l l3 && Nat.ble m 1048576 && allUpTo (smallW n) m && Nat.ble pp 32 && Nat.ble l 1000) (.ite (allUpTo (okI m n x y z cl cur gg pp) (l)) (.leaf .normal (I60i m n x y z cl cur gg l pp s e6 (l)) (J60i m n x y z cl cur gg l pp s e6 (l))) (.leaf (.ret) ((fun i => [.ro 3 m (.wires n x y z cl cur), .int .i64 (.ofNat pp), .sl 288 l, .int .i64 (Int.ofNat l), .int .i64 (Int.ofNat i), .flt .f32 (apS m n x y z cl cur (gg i 0) (gg i 1) (gg i 2) (fop .sub .f32 (gg i 3) (gg i 0)) (fop .sub .f32 (gg i 4) (gg i 1)) (fop .sub .f32 (gg i 5) (gg i 2)) (fop .mul .f32 (fop .sub .f32 (gg i 3) (gg i 0)) (inv pp)) (fop .mul .f32 (fop .sub .f32 (gg i 4) (gg i 1)) (inv pp)) (fop .mul .f32 (fop .sub .f32 (gg i 5) (gg i 2)) (inv pp)) pp (apR m n x y z cl cur gg pp s i) (firstIdx (okP m n x y z cl cur (gg i 0) (gg i 1) (gg i 2) (fop .sub .f32 (gg i 3) (gg i 0)) (fop .sub .f32 (gg i 4) (gg i 1)) (fop .sub .f32 (gg i 5) (gg i 2)) pp) pp)), .flt .f32 (can .f32 0), .bool false]) (firstIdx (okI m n x y z cl cur gg pp) (l))) (J60i m n x y z cl cur gg l pp s e6 (firstIdx (okI m n x y z cl cur gg pp) (l))))) .fail)
  | _, _ => none
theorem loop60i : CodeOK Try.prog (fun _ σ => sumAt Try.f32.ntmps 336 [0, 2, 28, 29, 30, 8, 6, 7] [288] F60i σ) (.block 0 (.loop (loopOf Try.f32 0))) := by
  refine block_ok (own := fun _ => true) (lp := (look lpi60i)) (un := 0) (fuel := 1000) cfg31v_ok lpi60i_ok fun az os R hF hok => ?_
  unfold F60i at hF
  split at hF
  · rename_i m n x y z cl cur pp l l2 s e6 l3 gg
    injection hF with hF
    subst hF
    have hg := hok.guard
    have hg' := hg
    simp only [Bool.and_eq_true, Nat.ble_eq, Nat.beq_eq, decide_eq_true_eq] at hg'
    obtain ⟨⟨⟨⟨⟨rfl, rfl⟩, hm⟩, hsm⟩, hpp⟩, hl⟩ := hg'
    refine for_fact (ids := [288]) (okI m n x y z cl cur gg pp) (l) (I60i m n x y z cl cur gg l pp s e6) (J60i m n x y z cl cur gg l pp s e6) _ (.ret) (fun i => [.ro 3 m (.wires n x y z cl cur), .int .i64 (.ofNat pp), .sl 288 l, .int .i64 (Int.ofNat l), .int .i64 (Int.ofNat i), .flt .f32 (apS m n x y z cl cur (gg i 0) (gg i 1) (gg i 2) (fop .sub .f32 (gg i 3) (gg i 0)) (fop .sub .f32 (gg i 4) (gg i 1)) (fop .sub .f32 (gg i 5) (gg i 2)) (fop .mul .f32 (fop .sub .f32 (gg i 3) (gg i 0)) (inv pp)) (fop .mul .f32 (fop .sub .f32 (gg i 4) (gg i 1)) (inv pp)) (fop .mul .f32 (fop .sub .f32 (gg i 5) (gg i 2)) (inv pp)) pp (apR m n x y z cl cur gg pp s i) (firstIdx (okP m n x y z cl cur (gg i 0) (gg i 1) (gg i 2) (fop .sub .f32 (gg i 3) (gg i 0)) (fop .sub .f32 (gg i 4) (gg i 1)) (fop .sub .f32 (gg i 5) (gg i 2)) pp) pp)), .flt .f32 (can .f32 0), .bool false]) (fun i => [.ro 3 m (.wires n x y z cl cur), .int .i64 (.ofNat pp), .sl 288 l, .int .i64 (Int.ofNat l), .int .i64 (Int.ofNat i), .flt .f32 (apS m n x y z cl cur (gg i 0) (gg i 1) (gg i 2) (fop .sub .f32 (gg i 3) (gg i 0)) (fop .sub .f32 (gg i 4) (gg i 1)) (fop .sub .f32 (gg i 5) (gg i 2)) (fop .mul .f32 (fop .sub .f32 (gg i 3) (gg i 0)) (inv pp)) (fop .mul .f32 (fop .sub .f32 (gg i 4) (gg i 1)) (inv pp)) (fop .mul .f32 (fop .sub .f32 (gg i 5) (gg i 2)) (inv pp)) pp (apR m n x y z cl cur gg pp s i) (firstIdx (okP m n x y z cl cur (gg i 0) (gg i 1) (gg i 2) (fop .sub .f32 (gg i 3) (gg i 0)) (fop .sub .f32 (gg i 4) (gg i 1)) (fop .sub .f32 (gg i 5) (gg i 2)) pp) pp)), .flt .f32 (can .f32 0), .bool false]) (I60i m n x y z cl cur gg l pp s e6 (l)) (J60i m n x y z cl cur gg l pp s e6 (l)) rfl (OSims.self _) (fun _ => rfl) (fun _ => rfl) (fun _ => ALe.self _) (fun _ => rfl) (ALe.self _) (OSims.self _) rfl (fun h => by cases h) (fun k hk L h1 h2 h3 => ?_) fun L hL => ?_
    · rw [round60i]
      by_cases hkm : k < l
      · refine condT (lt_dec hkm) ?_
        rw [wrap_succ (by omega)]
        refine condT (lt_dec hkm) ?_
        refine condT (by rw [ble_of hm, ble_of hpp, hsm, decide_eq_true rfl, decide_eq_true rfl, Nat.beq_refl]; rfl) ?_
        show cond (okI m n x y z cl cur gg pp k) _ _
        cases hs : okI m n x y z cl cur gg pp k
        · exact h2 hkm hs
        · exact h1 hkm hs _ (OSims.self (J60i m n x y z cl cur gg l pp s e6 (k + 1)))
      · refine condE (ge_dec (by omega)) ?_
        obtain rfl : k = l := by omega
        exact h3 rfl
    · exact ⟨fun h => (hL.1 hg).1 h, fun N hN hf hall => by
        have := (hL.1 hg).2 (allUpTo_false hN hf)
        rw [firstIdx_eq hN hf hall] at this
        exact this⟩
  · cases hF
end Go.Fw.E1

/-
  Along paths: what is no number stays none.
-/
namespace Go.Fw.E1
open Go.Proofs
theorem not_num {k : FloatKind} {x : Nat} (h : num k x = false) : (∃ s t, k.format.read x = .nan s t) ∨ ∃ s, k.format.read x = .infinity s := by
  cases hx : k.format.read x with
  | number s m i =>
    have := num_iff.2 ⟨_, _, _, hx⟩
    rw [this] at h; cases h
  | nan s t => exact .inl ⟨s, t, rfl⟩
  | infinity s => exact .inr ⟨s, rfl⟩
theorem num_nan (k : FloatKind) : num k (qnan k) = false := by cases k <;> decide +kernel
theorem num_inf (k : FloatKind) (g : Bool) : num k (k.format.word g k.format.infRung) = false := by cases k <;> cases g <;> decide +kernel
theorem add_eq (k : FloatKind) (x y : Nat) : floatBits .add k x y = ((k.format.read x).sum (k.format.read y)).map k.format.write := rfl
theorem mul_eq (k : FloatKind) (x y : Nat) : floatBits .mul k x y = ((k.format.read x).product (k.format.read y)).map k.format.write := rfl
theorem fop_none {op : BinOp} {k : FloatKind} {x y : Nat} {D : Option Ieee.Datum} (he : floatBits op k x y = D.map k.format.write) (hD : D = none ∨ ∃ g, D = some (.infinity g)) : num k (fop op k x y) = false := by
  unfold fop
  rw [he]
  rcases hD with h | ⟨g, h⟩
  · rw [h]; exact num_nan k
  · rw [h]; exact num_inf k g
theorem sum_infR (s : Bool) (d : Ieee.Datum) : d.sum (.infinity s) = none ∨ ∃ g, d.sum (.infinity s) = some (.infinity g) := by
  cases d with
  | nan a b => exact .inl rfl
  | infinity a => cases a <;> cases s <;> first | exact .inl rfl | exact .inr ⟨_, rfl⟩
  | number a n j => exact .inr ⟨_, rfl⟩
theorem sum_infL (s : Bool) (d : Ieee.Datum) : (Ieee.Datum.infinity s).sum d = none ∨ ∃ g, (Ieee.Datum.infinity s).sum d = some (.infinity g) := by
  cases d with
  | nan a b => exact .inl rfl
  | infinity a => cases a <;> cases s <;> first | exact .inl rfl | exact .inr ⟨_, rfl⟩
  | number a n j => exact .inr ⟨_, rfl⟩
theorem product_infL (s : Bool) (d : Ieee.Datum) : (Ieee.Datum.infinity s).product d = none ∨ ∃ g, (Ieee.Datum.infinity s).product d = some (.infinity g) := by
  cases d with
  | nan a b => exact .inl rfl
  | infinity a => exact .inr ⟨_, rfl⟩
  | number a n j =>
    simp only [Ieee.Datum.product]
    split
    · exact .inl rfl
    · exact .inr ⟨_, rfl⟩
theorem num_addR {k : FloatKind} {x y : Nat} (h : num k (fop .add k x y) = true) : num k y = true := by
  cases hy : num k y
  · rw [fop_none (add_eq k x y) ?_] at h
    · exact h
    · rcases not_num hy with ⟨s, t, e⟩ | ⟨s, e⟩
      · rw [e]; exact .inl (sum_nan_right _ _ _)
      · rw [e]; exact sum_infR _ _
  · rfl
theorem num_addL {k : FloatKind} {x y : Nat} (h : num k (fop .add k x y) = true) : num k x = true := by
  cases hy : num k x
  · rw [fop_none (add_eq k x y) ?_] at h
    · exact h
    · rcases not_num hy with ⟨s, t, e⟩ | ⟨s, e⟩
      · rw [e]; exact .inl (sum_nan_left _ _ _)
      · rw [e]; exact sum_infL _ _
  · rfl
theorem num_mulL {k : FloatKind} {x y : Nat} (h : num k (fop .mul k x y) = true) : num k x = true := by
  cases hy : num k x
  · rw [fop_none (mul_eq k x y) ?_] at h
    · exact h
    · rcases not_num hy with ⟨s, t, e⟩ | ⟨s, e⟩
      · rw [e]; exact .inl (product_nan_left _ _ _)
      · rw [e]; exact product_infL _ _
  · rfl
theorem sub_eq (k : FloatKind) (x y : Nat) : floatBits .sub k x y = ((k.format.read x).sum (k.format.read y).opposite).map k.format.write := rfl
theorem num_subL {k : FloatKind} {x y : Nat} (h : num k (fop .sub k x y) = true) : num k x = true := by
  cases hy : num k x
  · rw [fop_none (sub_eq k x y) ?_] at h
    · exact h
    · rcases not_num hy with ⟨s, t, e⟩ | ⟨s, e⟩
      · rw [e]; exact .inl (sum_nan_left _ _ _)
      · rw [e]; exact sum_infL _ _
  · rfl
theorem fin_addL {x y : Nat} (h : fin (fop .add .f32 x y) = true) : fin x = true := by rw [fin_num] at h ⊢; exact num_addL h
theorem fin_addR {x y : Nat} (h : fin (fop .add .f32 x y) = true) : fin y = true := by rw [fin_num] at h ⊢; exact num_addR h
theorem fin_mulL {x y : Nat} (h : fin (fop .mul .f32 x y) = true) : fin x = true := by rw [fin_num] at h ⊢; exact num_mulL h
theorem fin_subL {x y : Nat} (h : fin (fop .sub .f32 x y) = true) : fin x = true := by rw [fin_num] at h ⊢; exact num_subL h
end Go.Fw.E1

/-
  Along paths: where a field is none, the sum is none.
-/
namespace Go.Fw.E1
open Go.Proofs
theorem vfin_iff {a b c : Nat} : vfin a b c = true ↔ fin a = true ∧ fin b = true ∧ fin c = true := by
  unfold vfin
  cases fin a <;> cases fin b <;> cases fin c <;> simp
theorem fin_inn {a b c x y z : Nat} (h : fin (inn a b c x y z) = true) : vfin a b c = true := by
  unfold inn at h
  have h1 := fin_addL h
  exact vfin_iff.2 ⟨fin_mulL (fin_addL h1), fin_mulL (fin_addR h1), fin_mulL (fin_addR h)⟩
section
variable {m : Nat} {n : Nat → Nat} {x y z : Nat → Nat → Nat} {cl : Nat → Bool} {cur : Nat → Nat}
theorem faX_fin {p q r s : Nat} : ∀ k, fin (faX n x y z cl cur p q r s k) = true → fin s = true
  | 0, h => h
  | k + 1, h => faX_fin k (fin_addL h)
theorem faY_fin {p q r s : Nat} : ∀ k, fin (faY n x y z cl cur p q r s k) = true → fin s = true
  | 0, h => h
  | k + 1, h => faY_fin k (fin_addL h)
theorem faZ_fin {p q r s : Nat} : ∀ k, fin (faZ n x y z cl cur p q r s k) = true → fin s = true
  | 0, h => h
  | k + 1, h => faZ_fin k (fin_addL h)
theorem st0_yes {p q r c : Nat} (h : vfin p q r = true) : st0 p q r c = 0 := by unfold st0; rw [h]; rfl
theorem st0_fin {p q r c : Nat} (hc : vfin p q r = true → fin c = true) (h : fin (st0 p q r c) = true) : fin c = true := by
  unfold st0 at h
  cases hv : vfin p q r
  · rw [hv] at h; exact fin_subL h
  · exact hc hv
theorem innR_ok {p q r v0 v1 v2 : Nat} (h : fin (innR m n x y z cl cur p q r v0 v1 v2) = true) : (bif vfin p q r then fOkA m n x y z cl cur p q r else false) = true := by
  unfold innR at h
  have h1 := fin_inn h
  obtain ⟨a, b, c⟩ := vfin_iff.1 h1
  have hv : vfin p q r = true := vfin_iff.2 ⟨st0_fin (fun h => (vfin_iff.1 h).1) (faX_fin _ a), st0_fin (fun h => (vfin_iff.1 h).2.1) (faY_fin _ b), st0_fin (fun h => (vfin_iff.1 h).2.2) (faZ_fin _ c)⟩
  rw [st0_yes hv, st0_yes hv, st0_yes hv] at h1
  rw [hv]
  exact h1
theorem innR_eq {p q r v0 v1 v2 : Nat} (h : (bif vfin p q r then fOkA m n x y z cl cur p q r else false) = true) : innP m n x y z cl cur p q r v0 v1 v2 = innR m n x y z cl cur p q r v0 v1 v2 := by
  cases hv : vfin p q r
  · rw [hv] at h; cases h
  · unfold innP innR
    rw [st0_yes hv, st0_yes hv, st0_yes hv]
theorem awS_fin {a0 a1 a2 u0 u1 u2 v0 v1 v2 pp s : Nat} : ∀ K, fin (awS m n x y z cl cur a0 a1 a2 u0 u1 u2 v0 v1 v2 pp s K) = true → fin s = true ∧ ∀ k, k < K → okP m n x y z cl cur a0 a1 a2 u0 u1 u2 pp k = true
  | 0, h => ⟨h, fun k hk => absurd hk (by omega)⟩
  | K + 1, h => by
    have ih := awS_fin K (fin_addL h)
    have h2 := innR_ok (fin_addR h)
    refine ⟨ih.1, fun k hk => ?_⟩
    by_cases e : k = K
    · subst e; exact h2
    · exact ih.2 k (by omega)
theorem apS_eq {a0 a1 a2 u0 u1 u2 v0 v1 v2 pp s : Nat} : ∀ K, (∀ k, k < K → okP m n x y z cl cur a0 a1 a2 u0 u1 u2 pp k = true) → apS m n x y z cl cur a0 a1 a2 u0 u1 u2 v0 v1 v2 pp s K = awS m n x y z cl cur a0 a1 a2 u0 u1 u2 v0 v1 v2 pp s K
  | 0, _ => rfl
  | K + 1, h => by
    have ih := apS_eq (v0 := v0) (v1 := v1) (v2 := v2) (s := s) K (fun k hk => h k (by omega))
    have h2 := innR_eq (v0 := v0) (v1 := v1) (v2 := v2) (h K (by omega))
    show fop .add .f32 (apS m n x y z cl cur a0 a1 a2 u0 u1 u2 v0 v1 v2 pp s K) (innP m n x y z cl cur (atC a0 u0 pp K) (atC a1 u1 pp K) (atC a2 u2 pp K) v0 v1 v2) = fop .add .f32 (awS m n x y z cl cur a0 a1 a2 u0 u1 u2 v0 v1 v2 pp s K) (innR m n x y z cl cur (atC a0 u0 pp K) (atC a1 u1 pp K) (atC a2 u2 pp K) v0 v1 v2)
    rw [ih, h2]
theorem arR_fin {gg : Nat → Nat → Nat} {pp s : Nat} : ∀ N, fin (arR m n x y z cl cur gg pp s N) = true → allUpTo (okI m n x y z cl cur gg pp) N = true := by
  intro N h
  refine allUpTo_iff.2 ?_
  induction N with
  | zero => exact fun i hi => absurd hi (by omega)
  | succ N ih =>
    have h2 := awS_fin _ h
    intro i hi
    by_cases e : i = N
    · subst e; exact allUpTo_iff.2 h2.2
    · exact ih h2.1 i (by omega)
theorem apR_eq {gg : Nat → Nat → Nat} {pp s : Nat} : ∀ N, allUpTo (okI m n x y z cl cur gg pp) N = true → apR m n x y z cl cur gg pp s N = arR m n x y z cl cur gg pp s N := by
  intro N h0
  have h := allUpTo_iff.1 h0
  clear h0
  induction N with
  | zero => rfl
  | succ N ih =>
    have h1 := ih fun i hi => h i (by omega)
    have h2 := allUpTo_iff.1 (h N (by omega))
    show apS _ _ _ _ _ _ _ _ _ _ _ _ _ _ _ _ _ (apR m n x y z cl cur gg pp s N) _ = awS _ _ _ _ _ _ _ _ _ _ _ _ _ _ _ _ _ (arR m n x y z cl cur gg pp s N) _
    rw [h1]
    exact apS_eq _ h2
end
end Go.Fw.E1

/-
  Along paths: contracts of the reference and the program.
-/
namespace Go.Fw.E1
open Go.Proofs
def in32 (p : Int) : Bool := bif decide (p ≥ 1) then decide (p ≤ 32) else false
theorem in32_ok {pp : Nat} (h : in32 (Int.ofNat pp) = true) : pp ≤ 32 := by
  unfold in32 at h
  cases h1 : decide (Int.ofNat pp ≥ 1)
  · rw [h1] at h; cases h
  · rw [h1] at h
    have := of_decide_eq_true h
    simp at this
    omega
noncomputable def arOk (m : Nat) (n : Nat → Nat) (x y z : Nat → Nat → Nat) (cur : Nat → Nat) (n2 cur2 : Nat) (x2 y2 z2 : Nat → Nat) (p : Int) : Bool := areW m n x y z cur && okW n2 cur2 x2 y2 z2 && in32 p
noncomputable def lp60a : List (Nat × (St → T)) := [(0, sumAt Try.f32.ntmps 336 [0, 2, 28, 29, 30, 8, 6, 7] [288] F60i)]
theorem lp60a_ok : LpOK Try.prog (look lp60a) (bodyOf Try.f32) := lp_loops (by kernel_rfl) (by kernel_rfl) fun p hp => by
  simp only [lp60a, List.mem_cons, List.not_mem_nil, or_false] at hp
  rcases hp with rfl
  · exact loop60i
theorem auto60a (m : Nat) (n : Nat → Nat) (x y z : Nat → Nat → Nat) (cl : Nat → Bool) (cur : Nat → Nat) (n2 cur2 : Nat) (x2 y2 z2 : Nat → Nat) (cl2 : Bool) (pp : Nat) : autoLp cfg31v (look lp60a) Try.f32 [.ro 3 m (.wires n x y z cl cur), .agg [.ro 3 n2 (.vecs .f32 x2 y2 z2), .bool cl2, .flt .f32 cur2], .int .i64 (.ofNat pp)] =
    some (m.ble 1048576 && allUpTo (shortW n) m && ((n2.ble 4611686018427387000 || !(!areW m n x y z cur) == false) && bif bif bif !areW m n x y z cur then true else !okW n2 cur2 x2 y2 z2 then true else !bif decide (Int.ofNat pp ≥ 1) then decide (Int.ofNat pp ≤ 32) else false then true else Nat.ble 1 n2 && n2.ble 1073741824 && (decide (Int.ofNat (cnt n2 cl2) = Int.ofNat (cnt n2 cl2)) && (cnt n2 cl2).beq (cnt n2 cl2) && m.ble 1048576 && allUpTo (smallW n) m && pp.ble 32 && (cnt n2 cl2).ble 1000 && bif allUpTo (okI m n x y z cl cur (sg n2 x2 y2 z2) pp) (cnt n2 cl2) then true else true)), A.tup [A.flt .f32 (bif bif bif !areW m n x y z cur then true else !okW n2 cur2 x2 y2 z2 then true else !bif decide (Int.ofNat pp ≥ 1) then decide (Int.ofNat pp ≤ 32) else false then can .f32 0 else bif allUpTo (okI m n x y z cl cur (sg n2 x2 y2 z2) pp) (cnt n2 cl2) then bif fin (apR m n x y z cl cur (sg n2 x2 y2 z2) pp (can .f32 0) (cnt n2 cl2)) then apR m n x y z cl cur (sg n2 x2 y2 z2) pp (can .f32 0) (cnt n2 cl2) else can .f32 0 else can .f32 0), A.bool (bif bif bif !areW m n x y z cur then true else !okW n2 cur2 x2 y2 z2 then true else !bif decide (Int.ofNat pp ≥ 1) then decide (Int.ofNat pp ≤ 32) else false then false else bif allUpTo (okI m n x y z cl cur (sg n2 x2 y2 z2) pp) (cnt n2 cl2) then fin (apR m n x y z cl cur (sg n2 x2 y2 z2) pp (can .f32 0) (cnt n2 cl2)) else false)]) := by kernel_rfl
noncomputable def s60a : List A → Option (Bool × A)
  | [.ro 3 m (.wires n x y z cl cur), .agg [.ro 3 n2 (.vecs .f32 x2 y2 z2), .bool cl2, .flt .f32 cur2], .int .i64 (.ofNat pp)] => some (Nat.ble m 1048576 && allUpTo (shortW n) m && Nat.ble n2 1048576, .tup [.flt .f32 (bif arOk m n x y z cur n2 cur2 x2 y2 z2 (Int.ofNat pp) && fin (arR m n x y z cl cur (sg n2 x2 y2 z2) pp (can .f32 0) (cnt n2 cl2)) then arR m n x y z cl cur (sg n2 x2 y2 z2) pp (can .f32 0) (cnt n2 cl2) else can .f32 0), .bool (arOk m n x y z cur n2 cur2 x2 y2 z2 (Int.ofNat pp) && fin (arR m n x y z cl cur (sg n2 x2 y2 z2) pp (can .f32 0) (cnt n2 cl2)))])
  | _ => none
theorem s60a_at : EnvAt Try.prog 32 s60a := of_auto cfg31v_ok lp60a_ok Try.func32 (by kernel_rfl) (by kernel_rfl) fun ds cc rr h hc => by
  unfold s60a at h
  split at h
  · rename_i m n x y z cl cur n2 x2 y2 z2 cl2 cur2 pp
    simp only [Option.some.injEq, Prod.mk.injEq] at h
    obtain ⟨rfl, rfl⟩ := h
    refine auto_fit (auto60a m n x y z cl cur n2 cur2 x2 y2 z2 cl2 pp) ?_ ?_
    · unfold arOk in32
      cases areW m n x y z cur
      · rfl
      · cases okW n2 cur2 x2 y2 z2
        · rfl
        · cases (bif decide (Int.ofNat pp ≥ 1) then decide (Int.ofNat pp ≤ 32) else false)
          · rfl
          · cases hall : allUpTo (okI m n x y z cl cur (sg n2 x2 y2 z2) pp) (cnt n2 cl2)
            · cases hf : fin (arR m n x y z cl cur (sg n2 x2 y2 z2) pp (can .f32 0) (cnt n2 cl2))
              · rfl
              · rw [arR_fin _ hf] at hall; cases hall
            · rw [apR_eq _ hall]; rfl
    · simp only [Bool.and_eq_true, Nat.ble_eq] at hc
      obtain ⟨⟨hm, hsh⟩, hn2⟩ := hc
      rw [ble_of hm, hsh, ble_of (show n2 ≤ 4611686018427387000 by omega)]
      cases hA : areW m n x y z cur
      · rfl
      · cases hB : okW n2 cur2 x2 y2 z2
        · rfl
        · have k4 := okW_n hB
          cases hI : (bif decide (Int.ofNat pp ≥ 1) then decide (Int.ofNat pp ≤ 32) else false)
          · rfl
          · have k5 := in32_ok hI
            rw [(areW_ok hA).2, ble_of k5, ble_of (show 1 ≤ n2 by omega), ble_of (show n2 ≤ 1073741824 by omega), ble_of (show cnt n2 cl2 ≤ 1000 by have := cnt_le n2 cl2; omega), Nat.beq_refl, decide_eq_true rfl, Bool.cond_self]; rfl
  · cases h
end Go.Fw.E1

/-
  Wires gone back: their points kept.
-/
namespace Go.Fw.E1
open Go.Proofs
theorem auto87i (x y z : Nat) : autoLp cfg35 (fun _ => none) Try.f87 [.agg [.flt .f32 x, .flt .f32 y, .flt .f32 z]] =
    some (true, A.agg [A.flt .f32 x, A.flt .f32 y, A.flt .f32 z]) := by kernel_rfl
noncomputable def s87i : List A → Option (Bool × A)
  | [.agg [.flt .f32 x, .flt .f32 y, .flt .f32 z]] => some (true, .agg [.flt .f32 x, .flt .f32 y, .flt .f32 z])
  | _ => none
theorem s87i_at : EnvAt Try.prog 87 s87i := of_auto cfg35_ok (lp_none _) Try.func87 (by kernel_rfl) (by kernel_rfl) fun ds cc rr h hc => by
  unfold s87i at h
  split at h
  · rename_i x y z
    simp only [Option.some.injEq, Prod.mk.injEq] at h
    obtain ⟨rfl, rfl⟩ := h
    refine auto_fit (auto87i x y z) ?_ ?_
    · rfl
    · rfl
  · cases h
noncomputable def envB1 : List (Nat × (List A → Option (Bool × A))) := (87, s87i) :: env35
theorem envB1_ok : EnvOK Try.prog (look envB1) := env_cons s87i_at env35_ok
noncomputable def cfgB1 : Cfg := mkCfg (nilTab tab) fts75 xts (look envB1)
theorem cfgB1_ok : CfgOK Try.prog cfgB1 := cfgN_ok' tab_eq fts75_ok xts_ok envB1_ok mixed
noncomputable def I95i (n cur : Nat) (x y z : Nat → Nat) (cl : Bool) (k : Nat) : List A := [.fn 87 [], .ro 3 n (.vecs .f32 x y z), .int .i64 (Int.ofNat n), .int .i64 (Int.ofNat k), .ptr 176 0, .ptr 16 0, .bool false]
noncomputable def J95i (n cur : Nat) (x y z : Nat → Nat) (cl : Bool) (k : Nat) : List O := [.var [.sl 272 k, .bool cl, .flt .f32 cur], .row 30 3 k (.vecs .f32 x y z), .var [.nils, .bool false, .flt .f32 0]]
theorem round95i (n cur : Nat) (x y z : Nat → Nat) (cl : Bool) (k : Nat) (L : XK → List A → List (Option O) → Prop) :
    ((exec cfgB1 (fun _ => true) (fun _ => none) 0 1000 (loopOf Try.f85 0) (litSt Try.f85.ntmps 288 [1, 19, 20, 21, 6, 4, 5] [176, 272, 16] (I95i n cur x y z cl k) (J95i n cur x y z cl k))).rt [1, 19, 20, 21, 6, 4, 5] [176, 272, 16]).Ok L =
    bif decide (Int.ofNat k < Int.ofNat n) then
       bif decide (Int.ofNat k < Int.ofNat n) then
         bif decide (k + 1 ≤ 1073741824) then
           L (XK.normal) ([A.fn 87 [], A.ro 3 n (Row.vecs .f32 x y z), A.int .i64 (Int.ofNat n), A.int .i64 (IntKind.i64.wrap (Int.ofNat k + Int.ofNat 1)), A.ptr 176 0, A.ptr 16 0, A.bool false]) ([some (O.var [A.sl 272 (k + 1), A.bool cl, A.flt .f32 cur]),   some     (O.row 30 3 (k + 1)       (Row.vecs .f32         (fun j =>           (match decide (j < k) with | true => x j | false => ([[x k, y k, z k]].getD (j - k) []).getD 0 0))         (fun j =>           (match decide (j < k) with | true => y j | false => ([[x k, y k, z k]].getD (j - k) []).getD 1 0))         fun j =>         (match decide (j < k) with | true => z j | false => ([[x k, y k, z k]].getD (j - k) []).getD 2 0))),   some (O.var [A.nils, A.bool false, A.flt .f32 0])])
         else
           False
       else
         False
     else
       L (XK.exit 0) ([A.fn 87 [], A.ro 3 n (Row.vecs .f32 x y z), A.int .i64 (Int.ofNat n), A.int .i64 (Int.ofNat k), A.ptr 176 0, A.ptr 16 0, A.bool false]) ([some (O.var [A.sl 272 k, A.bool cl, A.flt .f32 cur]), some (O.row 30 3 k (Row.vecs .f32 x y z)), some (O.var [A.nils, A.bool false, A.flt .f32 0])]) := by kernel_rfl
noncomputable def F95i : List A → List (Option O) → Option R3
  | [.fn 87 [], .ro 3 n (.vecs .f32 x y z), .int .i64 l, .int .i64 0, .ptr 176 0, .ptr 16 0, .bool false], [some (.var [.sl 272 0, .bool cl, .flt .f32 cur]), some (.row 30 3 0 g), some (.var [.nils, .bool false, .flt .f32 0])] => some (.ite (decide (l = Int.ofNat n) && Nat.ble n 1000) (.leaf .normal (I95i n cur x y z cl (n)) (J95i n cur x y z cl (n))) .fail)
  | _, _ => none
theorem loop95i : CodeOK Try.prog (fun _ σ => sumAt Try.f85.ntmps 288 [1, 19, 20, 21, 6, 4, 5] [176, 272, 16] F95i σ) (.block 0 (.loop (loopOf Try.f85 0))) := by
  refine block_ok (own := fun _ => true) (lp := (fun _ => none)) (un := 0) (fuel := 1000) cfgB1_ok (lp_none _) fun az os R hF hok => ?_
  unfold F95i at hF
  split at hF
  · rename_i n x y z l cl cur g
    injection hF with hF
    subst hF
    have hg := hok.guard
    have hg' := hg
    simp only [Bool.and_eq_true, Nat.ble_eq, Nat.beq_eq, decide_eq_true_eq] at hg'
    obtain ⟨rfl, hn⟩ := hg'
    refine for_fact (ids := [176, 272, 16]) (fun _ => true) (n) (I95i n cur x y z cl) (J95i n cur x y z cl) _ (.ret) (I95i n cur x y z cl) (I95i n cur x y z cl) (I95i n cur x y z cl (n)) (J95i n cur x y z cl (n)) rfl (by unfold J95i; exact ⟨rfl, ⟨30, _, rfl, .inr rfl, fun p hp => absurd hp (by omega)⟩, rfl, trivial⟩) (fun _ => rfl) (fun _ => rfl) (fun _ => ALe.self _) (fun _ => rfl) (ALe.self _) (OSims.self _) rfl (fun h => by cases h) (fun k hk L h1 h2 h3 => ?_) fun L hL => ?_
    · rw [round95i]
      by_cases hkm : k < n
      · refine condT (lt_dec hkm) ?_
        rw [wrap_succ (by omega)]
        refine condT (lt_dec hkm) ?_
        refine condT (decide_eq_true (by omega)) ?_
        exact h1 hkm rfl _ ⟨rfl, ⟨30, _, rfl, .inr rfl, fun p hp => vec_at (app3 (u := x) rfl hp) (app3 (u := y) rfl hp) (app3 (u := z) rfl hp)⟩, rfl, trivial⟩
      · refine condE (ge_dec (by omega)) ?_
        obtain rfl : k = n := by omega
        exact h3 rfl
    · exact ⟨fun _ => hL.1 hg, fun N _ h => by cases h⟩
  · cases hF
noncomputable def N95i : St → T := nilW 176 0 30 3 (sumAt Try.f85.ntmps 288 [1, 19, 20, 21, 6, 4, 5] [176, 272, 16] F95i)
theorem loopN95i : CodeOK Try.prog (fun _ σ => N95i σ) (.block 0 (.loop (loopOf Try.f85 0))) := nilW_ok loop95i
noncomputable def lp95iT : List (Nat × (St → T)) := [(0, N95i)]
theorem lp95iT_ok : LpOK Try.prog (look lp95iT) (bodyOf Try.f85) := lp_loops (by kernel_rfl) (by kernel_rfl) fun p hp => by
  simp only [lp95iT, List.mem_cons, List.not_mem_nil, or_false] at hp
  rcases hp with rfl
  · exact loopN95i
theorem auto95iT (n cur : Nat) (x y z : Nat → Nat) (cl : Bool) : autoS cfgB1 (look lp95iT) false Try.f85 [.agg [.ro 3 n (.vecs .f32 x y z), .bool cl, .flt .f32 cur], .fn 87 []] =
    some (n.ble 4611686018427387000 && (!!okW n cur x y z && (decide (Int.ofNat n = Int.ofNat n) && n.ble 1000 && (n.ble 4611686018427387000 && (!!okW n cur x y z && true)))), A.tup [A.agg [A.ro 3 n (Row.vecs .f32 x y z), A.bool cl, A.flt .f32 cur], A.bool true]) := by kernel_rfl
noncomputable def s95iT : List A → Option (Bool × A)
  | [.agg [.ro 3 n (.vecs .f32 x y z), .bool cl, .flt .f32 cur], .fn 87 []] => some (okW n cur x y z, .tup [.agg [.ro 3 n (.vecs .f32 x y z), .bool cl, .flt .f32 cur], .bool true])
  | _ => none
theorem s95iT_at : EnvAt Try.prog 85 s95iT := of_autoS cfgB1_ok lp95iT_ok Try.func85 (by kernel_rfl) (by kernel_rfl) fun ds cc rr h hc => by
  unfold s95iT at h
  split at h
  · rename_i n x y z cl cur
    simp only [Option.some.injEq, Prod.mk.injEq] at h
    obtain ⟨rfl, rfl⟩ := h
    refine auto_fit (auto95iT n cur x y z cl) ?_ ?_
    · rfl
    · have h5 := okW_n hc
      rw [hc, ble_of (show n ≤ 4611686018427387000 by omega), ble_of (show n ≤ 1000 by omega), decide_eq_true rfl]; rfl
  · cases h
noncomputable def envB2 : List (Nat × (List A → Option (Bool × A))) := (85, s95iT) :: envB1
theorem envB2_ok : EnvOK Try.prog (look envB2) := env_cons s95iT_at envB1_ok
end Go.Fw.E1

/-
  Wires gone back: points turned round.
-/
namespace Go.Fw.E1
open Go.Proofs
noncomputable def ftsR : List (Nat × Func) := [(88, Try.f88), (75, Try.f75)]
theorem ftsR_ok (f : Nat) (fn : Func) (h : (f, fn) ∈ ftsR) : Try.prog.funcs[f]? = some fn ∧ (fn.name == "runtime.NumGoroutine") = false := by
  simp only [ftsR, List.mem_cons, Prod.mk.injEq, List.not_mem_nil, or_false] at h
  rcases h with ⟨rfl, rfl⟩ | ⟨rfl, rfl⟩
  · exact ⟨Try.func88, by kernel_rfl⟩
  · exact ⟨Try.func75, by kernel_rfl⟩
end Go.Fw.E1

/-
  Points turned round in place: the loop of slices.Reverse.
-/
namespace Go.Fw.E1
open Go.Proofs
def IR (m i : Nat) (j : Int) : List A := [.sl 64 m, .int .i64 (Int.ofNat i), .int .i64 j]
def setAt (i : Nat) (v : Nat) (x : Nat → Nat) (p : Nat) : Nat := match decide (p = i) with | true => v | false => x p
def inRow (m : Nat) (j : Int) : Bool := decide (0 ≤ j) && decide (j < Int.ofNat m)
theorem roundR64 (m i e lo nx : Nat) (j : Int) (x y z : Nat → Nat) (M : List (Nat × O)) (L : XK → List A → List (Nat × O) → Prop) :
    ((exec cfg0 (fun _ => true) (fun _ => none) 0 1000 (loopOf Try.f88 0) (stM Try.f88.ntmps lo nx [0, 2, 3] (IR m i j) 64 (.row e 3 m (.vecs .f32 x y z)) M)).rm [0, 2, 3]).Ok L =
    (bif decide (Int.ofNat i < j) then
      bif (inRow m (Int.ofNat i) && (inRow m (Int.ofNat i) && (inRow m j && true))) then
        bif inRow m j then
          L .normal [.sl 64 m, .int .i64 (IntKind.i64.wrap (Int.ofNat i + Int.ofNat 1)), .int .i64 (IntKind.i64.wrap (j - Int.ofNat 1))]
            ((64, .row e 3 m (.vecs .f32 (setAt j.toNat (x i) (setAt i (x j.toNat) x)) (setAt j.toNat (y i) (setAt i (y j.toNat) y)) (setAt j.toNat (z i) (setAt i (z j.toNat) z)))) ::
             (64, .row e 3 m (.vecs .f32 (setAt i (x j.toNat) x) (setAt i (y j.toNat) y) (setAt i (z j.toNat) z))) :: (64, .row e 3 m (.vecs .f32 x y z)) :: M)
        else False
      else False
    else L (.exit 0) [.sl 64 m, .int .i64 (Int.ofNat i), .int .i64 j] ((64, .row e 3 m (.vecs .f32 x y z)) :: M)) := by kernel_rfl
def revTo (m k : Nat) (x : Nat → Nat) (p : Nat) : Nat := match decide (p < k) || decide (m - 1 - k < p) with | true => x (m - 1 - p) | false => x p
noncomputable def JR (e m : Nat) (x y z : Nat → Nat) (k : Nat) : O := .row e 3 m (.vecs .f32 (revTo m k x) (revTo m k y) (revTo m k z))
theorem revTo_step {m k : Nat} (hk : k < m / 2) (x : Nat → Nat) (p : Nat) (hp : p < m) :
    setAt (m - 1 - k) (revTo m k x k) (setAt k (revTo m k x (m - 1 - k)) (revTo m k x)) p = revTo m (k + 1) x p := by
  unfold setAt revTo
  by_cases h1 : p = m - 1 - k
  · subst h1
    have a1 : decide (m - 1 - (k + 1) < m - 1 - k) = true := by simp; omega
    have a2 : decide (k < k) = false := by simp
    have a3 : decide (m - 1 - k < k) = false := by simp; omega
    simp only [a1, a2, a3, decide_true, Bool.or_true, Bool.or_false, Bool.or_self]
    congr 1; omega
  · by_cases h2 : p = k
    · subst h2
      have a1 : decide (p < p + 1) = true := by simp
      have a2 : decide (m - 1 - p < p) = false := by simp; omega
      have a3 : decide (m - 1 - p < m - 1 - p) = false := by simp
      have a4 : decide (p = m - 1 - p) = false := by simp; omega
      simp only [a1, a2, a3, a4, decide_true, Bool.true_or, Bool.or_self]
    · have a1 : (p < k) = (p < k + 1) := by simp; omega
      have a2 : (m - 1 - k < p) = (m - 1 - (k + 1) < p) := by simp; omega
      simp only [h1, h2, decide_false, a1, a2]
noncomputable def FR64 : List A → O → Option (Bool × List A × O)
  | [.sl j m, .int .i64 (.ofNat 0), .int .i64 jz], .row e 3 m2 (.vecs .f32 x y z) => some (Nat.beq j 64 && Nat.beq m2 m && Nat.ble m 1048577 && Nat.ble 1 m && decide (jz = Int.ofNat (m - 1)), IR m (m / 2) (Int.ofNat (m - 1 - m / 2)), .row e 3 m (.vecs .f32 (fun p => x (m - 1 - p)) (fun p => y (m - 1 - p)) (fun p => z (m - 1 - p))))
  | _, _ => none
theorem revTo_zero {m : Nat} (x : Nat → Nat) (p : Nat) (hp : p < m) : x p = revTo m 0 x p := by
  unfold revTo
  have a1 : decide (p < 0) = false := by simp
  have a2 : decide (m - 1 - 0 < p) = false := by simp; omega
  simp only [a1, a2, Bool.or_self]
theorem revTo_end {m : Nat} (x : Nat → Nat) (p : Nat) (hp : p < m) : revTo m (m / 2) x p = x (m - 1 - p) := by
  unfold revTo
  by_cases h : p < m / 2 ∨ m - 1 - m / 2 < p
  · have a : (decide (p < m / 2) || decide (m - 1 - m / 2 < p)) = true := by simpa using h
    simp only [a]
  · have a : (decide (p < m / 2) || decide (m - 1 - m / 2 < p)) = false := by simp; omega
    simp only [a]
    congr 1; omega
theorem inRow_nat {m i : Nat} (h : i < m) : inRow m (Int.ofNat i) = true := by
  unfold inRow
  simp; omega
theorem loopR64 : CodeOK Try.prog (fun _ σ => sumM Try.f88.ntmps [0, 2, 3] 64 FR64 σ) (.block 0 (.loop (loopOf Try.f88 0))) :=
  sumM_ok (own := fun _ => true) (lp := fun _ => none) (un := 0) (fuel := 1000) cfg0_ok (lp_none _) (by
  intro az o az' o' hF
  unfold FR64 at hF
  split at hF
  · rename_i j m jz e m2 x y z
    simp only [Option.some.injEq, Prod.mk.injEq, Bool.and_eq_true, Nat.beq_eq, Nat.ble_eq, decide_eq_true_eq] at hF
    obtain ⟨⟨⟨⟨⟨hj, hm2⟩, hm⟩, hm1⟩, hjz⟩, rfl, rfl⟩ := hF
    subst hj hm2 hjz
    refine ⟨fun k => IR m2 k (Int.ofNat (m2 - 1 - k)), JR e m2 x y z, m2 / 2, rfl, ⟨e, _, rfl, .inr rfl, fun p hp => vec_at (revTo_zero x p hp) (revTo_zero y p hp) (revTo_zero z p hp)⟩, fun _ => rfl, rfl, ALe.self _,
      ⟨e, _, rfl, .inr rfl, fun p hp => vec_at (revTo_end x p hp) (revTo_end y p hp) (revTo_end z p hp)⟩, fun k hk lo nx M => ?_⟩
    unfold JR
    rw [roundR64]
    by_cases hkm : k < m2 / 2
    · refine condT (lt_dec (by omega)) (condT (by rw [inRow_nat (by omega), inRow_nat (by omega)]; rfl) (condT (inRow_nat (by omega)) ⟨hkm, ?_, fun j' hj' => ?_, ?_⟩))
      · rw [wrap_succ (by omega), wrap_pred' (by omega) (by omega)]
        rw [show m2 - 1 - k - 1 = m2 - 1 - (k + 1) by omega]; rfl
      · rw [look_cons_other _ _ hj', look_cons_other _ _ hj', look_cons_other _ _ hj']
      · rw [look_cons_same]
        exact ⟨e, _, rfl, .inr rfl, fun p hp => vec_at (revTo_step hkm x p hp) (revTo_step hkm y p hp) (revTo_step hkm z p hp)⟩
    · obtain rfl : k = m2 / 2 := by omega
      refine condE (ge_dec (by omega)) ⟨rfl, rfl, rfl, fun j' hj' => ?_, ?_⟩
      · rw [look_cons_other _ _ hj']
      · rw [look_cons_same]
        exact ⟨e, _, rfl, .inr rfl, fun _ _ => rfl⟩
  · cases hF)
end Go.Fw.E1

/-
  Wires gone back: slices.Reverse walked in place.
-/
namespace Go.Fw.E1
open Go.Proofs
noncomputable def lpR : List (Nat × (St → T)) := [(0, sumM Try.f88.ntmps [0, 2, 3] 64 FR64)]
theorem lpR_ok : LpOK Try.prog (look lpR) (bodyOf Try.f88) := lp_loops (by kernel_rfl) (by kernel_rfl) fun p hp => by
  rw [List.mem_singleton.1 hp]
  exact loopR64
noncomputable def revS (σ : St) : T := match σ.get 0 with
  | .emp => exec cfg0 (fun _ => true) (fun _ => none) 1 1000 (bodyOf Try.f88) σ
  | _ => exec cfg0 (fun _ => true) (look lpR) 0 1000 (bodyOf Try.f88) σ
theorem revS_ok : CodeOK Try.prog (fun _ σ => revS σ) (bodyOf Try.f88) := by
  intro σ L hok
  replace hok : (revS σ).Ok Try.prog L := hok
  unfold revS at hok
  split at hok
  · exact codeOK_exec cfg0_ok (lp_none _) σ L hok
  · exact codeOK_exec cfg0_ok lpR_ok σ L hok
noncomputable def fxR : List (Nat × (St → T)) := [(88, revS)]
theorem fxR_ok (g : Nat) (s : St → T) (fn : Func) (body : Code) (h1 : (g, s) ∈ fxR) (h2 : (g, fn) ∈ ftsR) (h3 : fn.body = some body) : CodeOK Try.prog (fun _ σ => s σ) body := by
  simp only [fxR, List.mem_singleton, Prod.mk.injEq] at h1
  obtain ⟨rfl, rfl⟩ := h1
  simp only [ftsR, List.mem_cons, Prod.mk.injEq, List.not_mem_nil, or_false] at h2
  rcases h2 with ⟨_, rfl⟩ | ⟨h2, _⟩
  · have e : bodyOf Try.f88 = body := by unfold bodyOf; rw [h3]
    rw [← e]
    exact revS_ok
  · omega
noncomputable def cfgR : Cfg := mkCfgX (nilTab tab) ftsR xts (look envB2) fxR
theorem cfgR_ok : CfgOK Try.prog cfgR :=
  ⟨fun t ti h => nilTab_ok (fun t ti hm => tabOf_ok tab_eq t ti hm) t ti (look_mem h), fun f fn h => ftsR_ok f fn (look_mem h), fun f e h => let ⟨fn, k⟩ := xts_ok f e (look_mem h); ⟨fn, k.at_, k.name, k.body, k.next, k.run⟩, envB2_ok,
    fun g s fn body hs hf hb => fxR_ok g s fn body (look_mem hs) (look_mem hf) hb, mixed⟩
end Go.Fw.E1

/-
  Wires gone back: BackWire.
-/
namespace Go.Fw.E1
open Go.Proofs
theorem auto34T (n cur : Nat) (x y z : Nat → Nat) (cl : Bool) : autoS cfgR (fun _ => none) false Try.f34 [.agg [.ro 3 n (.vecs .f32 x y z), .bool cl, .flt .f32 cur]] =
    some (okW n cur x y z && (n.beq n && n.ble 1048577 && Nat.ble 1 n && decide (IntKind.i64.wrap (Int.ofNat n - 1) = Int.ofNat (n - 1)) && true), A.tup [A.agg [A.ro 3 n (Row.vecs .f32 (fun p => x (n - 1 - p)) (fun p => y (n - 1 - p)) fun p => z (n - 1 - p)), A.bool cl, A.flt .f32 cur], A.bool true]) := by kernel_rfl
def revR (n : Nat) (x : Nat → Nat) (p : Nat) : Nat := x (n - 1 - p)
noncomputable def s34T : List A → Option (Bool × A)
  | [.agg [.ro 3 n (.vecs .f32 x y z), .bool cl, .flt .f32 cur]] => some (okW n cur x y z, .tup [.agg [.ro 3 n (.vecs .f32 (revR n x) (revR n y) (revR n z)), .bool cl, .flt .f32 cur], .bool true])
  | _ => none
theorem s34T_at : EnvAt Try.prog 34 s34T := of_autoS cfgR_ok (lp_none _) Try.func34 (by kernel_rfl) (by kernel_rfl) fun ds cc rr h hc => by
  unfold s34T at h
  split at h
  · rename_i n x y z cl cur
    simp only [Option.some.injEq, Prod.mk.injEq] at h
    obtain ⟨rfl, rfl⟩ := h
    refine auto_fit (auto34T n cur x y z cl) ?_ ?_
    · rfl
    · have h5 := okW_n hc
      have e : IntKind.i64.wrap (Int.ofNat n - 1) = Int.ofNat (n - 1) := wrap_pred' (by omega) (by omega)
      rw [hc, Nat.beq_refl, ble_of (show n ≤ 1048577 by omega), ble_of (show 1 ≤ n by omega), decide_eq_true e]; rfl
  · cases h
end Go.Fw.E1

/-
  The gap of two numbers.
-/
namespace Go.Fw.E1
open Go.Proofs
theorem autoGap (a b : Nat) : autoLp cfg0 (fun _ => none) Try.f23 [.flt .f64 a, .flt .f64 b] =
    some (true, A.flt .f64 (fmax .f64 (fop .sub .f64 a b) (fop .sub .f64 b a))) := by kernel_rfl
noncomputable def gap8 (a b : Nat) : Nat := fmax .f64 (fop .sub .f64 a b) (fop .sub .f64 b a)
noncomputable def sGap : List A → Option (Bool × A)
  | [.flt .f64 a, .flt .f64 b] => some (true, .flt .f64 (gap8 a b))
  | _ => none
theorem sGap_at : EnvAt Try.prog 23 sGap := of_auto cfg0_ok (lp_none _) Try.func23 (by kernel_rfl) (by kernel_rfl) fun ds cc rr h hc => by
  unfold sGap at h
  split at h
  · rename_i a b
    simp only [Option.some.injEq, Prod.mk.injEq] at h
    obtain ⟨rfl, rfl⟩ := h
    refine auto_fit (autoGap a b) ?_ ?_
    · rfl
    · rfl
  · cases h
end Go.Fw.E1

/-
  Bytes that come in.
-/
namespace Go.Fw.E1
open Go.Proofs
open Go.RowKit (Below)
theorem own : ownKnob Try.prog.godebug = none := by kernel_rfl
theorem laidOut : laidOutB Try.prog = true := by kernel_rfl
section
variable {H : Type} {enc : TypeId × Value → H} {w : World} {spare : Nat → Bool} {held : Bool}
set_option maxRecDepth 100000 in
theorem in_bytesA {r : Reach} {base : Nat} {v : Value} {x : DataW H × List MemPlace} (hv : Value.okWide Try.prog w r base 22 v) (h : ∃ fuel, DataW.trod enc Try.prog w 0 spare held fuel 22 v.cells.toList = some x) :
    ∃ (n : Nat) (b : Nat → Nat), (∀ i, b i < 256) ∧ RelD w (fun b => b < w.heap.size) v (.ro 1 n (.gen fun i => .int .u8 (Int.ofNat (b i)))) := by
  obtain ⟨fuel, h⟩ := h
  obtain ⟨a, l, c, rfl⟩ := Go.WideShapes.okWide_slice Try.underlying22 hv
  obtain ⟨u, n, b, e, hb, hr⟩ := in_bytes Try.underlying22 Try.underlying5 (by kernel_rfl) h
  have e' : [Value.slice a l c] = [u] := e
  simp only [List.cons.injEq, and_true] at e'
  subst e'
  exact ⟨n, b, hb, hr⟩
end
end Go.Fw.E1

/-
  What all laws of wires use: bytes' choices, places, gaps.
-/
namespace Go.Fw.E1
open Go.Proofs
def byt (g : Nat → A) (i : Nat) : Nat := match g i with | .int .u8 n => n.toNat | _ => 0
def isU8 (g : Nat → A) (i : Nat) : Bool := match g i with | .int .u8 n => decide (0 ≤ n) && decide (n < 256) | _ => false
theorem isU8_eq {g : Nat → A} {i : Nat} (h : isU8 g i = true) : g i = .int .u8 (Int.ofNat (byt g i)) ∧ byt g i < 256 := by
  unfold isU8 at h
  unfold byt
  split at h
  · rename_i n hn
    simp only [Bool.and_eq_true, decide_eq_true_eq] at h
    rw [hn]
    show A.int .u8 n = .int .u8 (Int.ofNat n.toNat) ∧ n.toNat < 256
    rw [show Int.ofNat n.toNat = n from Int.toNat_of_nonneg h.1]
    exact ⟨rfl, by omega⟩
  · cases h
theorem pure_bytes {f la : Nat} {g : Nat → A} {rest : List A} {r : A} (hg : allUpTo (isU8 g) la = true) (h : PureCall Try.prog f (.ro 1 la (.gen fun i => .int .u8 (Int.ofNat (byt g i))) :: rest) r) : PureCall Try.prog f (.ro 1 la (.gen g) :: rest) r := fun w vs T hT hs hr =>
  h w vs T hT hs fun i hi => match i, hi with
    | 0, _ => (hr 0 (Nat.succ_pos _)).row_congr fun i hi => (isU8_eq (allUpTo_iff.1 hg i hi)).1
    | i + 1, hi => hr (i + 1) hi
noncomputable def r8d (k : Nat) : Nat := match k with | 0 => can .f32 1065353216 | 1 => can .f32 1056964608 | _ => can .f32 3196059648
noncomputable def r8q (v : Nat) : Nat := fop .quo .f32 (fofInt .f32 (IntKind.i64.wrap ((IntKind.i64.wrap (Int.ofNat v)).tmod 17 - 8))) (can .f32 1082130432)
noncomputable def r8c (la : Nat) (b : Nat → Nat) (p k : Nat) : Nat := bif decide (p + k < la) then r8q (b (p + k)) else r8d k
theorem r8c_in {la : Nat} {b : Nat → Nat} {p k : Nat} (h : p + k < la) : r8c la b p k = r8q (b (p + k)) := by unfold r8c; rw [decide_eq_true h]; rfl
theorem r8c_out {la : Nat} {b : Nat → Nat} {p k : Nat} (h : ¬ p + k < la) : r8c la b p k = r8d k := by unfold r8c; rw [decide_eq_false h]; rfl
noncomputable def s25 : List A → Option (Bool × A)
  | [.ro 1 la (.gen g), .int .i64 (Int.ofNat p)] => match p with
    | 0 => some (allUpTo (isU8 g) la, .agg [.flt .f32 (r8c la (byt g) 0 0), .flt .f32 (r8c la (byt g) 0 1), .flt .f32 (r8c la (byt g) 0 2)])
    | 3 => some (allUpTo (isU8 g) la, .agg [.flt .f32 (r8c la (byt g) 3 0), .flt .f32 (r8c la (byt g) 3 1), .flt .f32 (r8c la (byt g) 3 2)])
    | _ => none
  | _ => none
theorem walk25_0_0 (la : Nat) (b : Nat → Nat) : autoW cfgA2 (fun _ => true) 5 (fun _ => none) [true, false, true, false, true, false, false] Try.f25 [.ro 1 la (.gen fun i => .int .u8 (Int.ofNat (b i))), .int .i64 0] = some (!decide (Int.ofNat 0 < Int.ofNat la) && (!decide (Int.ofNat 1 < Int.ofNat la) && (!decide (Int.ofNat 2 < Int.ofNat la) && (true))), .agg [.flt .f32 (r8d 0), .flt .f32 (r8d 1), .flt .f32 (r8d 2)]) := by kernel_rfl
theorem walk25_0_1 (la : Nat) (b : Nat → Nat) : autoW cfgA2 (fun _ => true) 5 (fun _ => none) [true, true, true, false, true, false, false] Try.f25 [.ro 1 la (.gen fun i => .int .u8 (Int.ofNat (b i))), .int .i64 0] = some (decide (Int.ofNat 0 < Int.ofNat la) && (decide (Int.ofNat 0 < Int.ofNat la) && (!decide (Int.ofNat 1 < Int.ofNat la) && (!decide (Int.ofNat 2 < Int.ofNat la) && (true)))), .agg [.flt .f32 (r8q (b 0)), .flt .f32 (r8d 1), .flt .f32 (r8d 2)]) := by kernel_rfl
theorem walk25_0_2 (la : Nat) (b : Nat → Nat) : autoW cfgA2 (fun _ => true) 5 (fun _ => none) [true, true, true, true, true, false, false] Try.f25 [.ro 1 la (.gen fun i => .int .u8 (Int.ofNat (b i))), .int .i64 0] = some (decide (Int.ofNat 0 < Int.ofNat la) && (decide (Int.ofNat 0 < Int.ofNat la) && (decide (Int.ofNat 1 < Int.ofNat la) && (decide (Int.ofNat 1 < Int.ofNat la) && (!decide (Int.ofNat 2 < Int.ofNat la) && (true))))), .agg [.flt .f32 (r8q (b 0)), .flt .f32 (r8q (b 1)), .flt .f32 (r8d 2)]) := by kernel_rfl
theorem walk25_0_3 (la : Nat) (b : Nat → Nat) : autoW cfgA2 (fun _ => true) 5 (fun _ => none) [true, true, true, true, true, true, false] Try.f25 [.ro 1 la (.gen fun i => .int .u8 (Int.ofNat (b i))), .int .i64 0] = some (decide (Int.ofNat 0 < Int.ofNat la) && (decide (Int.ofNat 0 < Int.ofNat la) && (decide (Int.ofNat 1 < Int.ofNat la) && (decide (Int.ofNat 1 < Int.ofNat la) && (decide (Int.ofNat 2 < Int.ofNat la) && (decide (Int.ofNat 2 < Int.ofNat la) && (true)))))), .agg [.flt .f32 (r8q (b 0)), .flt .f32 (r8q (b 1)), .flt .f32 (r8q (b 2))]) := by kernel_rfl
theorem walk25_3_0 (la : Nat) (b : Nat → Nat) : autoW cfgA2 (fun _ => true) 5 (fun _ => none) [true, false, true, false, true, false, false] Try.f25 [.ro 1 la (.gen fun i => .int .u8 (Int.ofNat (b i))), .int .i64 3] = some (!decide (Int.ofNat 3 < Int.ofNat la) && (!decide (Int.ofNat 4 < Int.ofNat la) && (!decide (Int.ofNat 5 < Int.ofNat la) && (true))), .agg [.flt .f32 (r8d 0), .flt .f32 (r8d 1), .flt .f32 (r8d 2)]) := by kernel_rfl
theorem walk25_3_1 (la : Nat) (b : Nat → Nat) : autoW cfgA2 (fun _ => true) 5 (fun _ => none) [true, true, true, false, true, false, false] Try.f25 [.ro 1 la (.gen fun i => .int .u8 (Int.ofNat (b i))), .int .i64 3] = some (decide (Int.ofNat 3 < Int.ofNat la) && (decide (Int.ofNat 3 < Int.ofNat la) && (!decide (Int.ofNat 4 < Int.ofNat la) && (!decide (Int.ofNat 5 < Int.ofNat la) && (true)))), .agg [.flt .f32 (r8q (b 3)), .flt .f32 (r8d 1), .flt .f32 (r8d 2)]) := by kernel_rfl
theorem walk25_3_2 (la : Nat) (b : Nat → Nat) : autoW cfgA2 (fun _ => true) 5 (fun _ => none) [true, true, true, true, true, false, false] Try.f25 [.ro 1 la (.gen fun i => .int .u8 (Int.ofNat (b i))), .int .i64 3] = some (decide (Int.ofNat 3 < Int.ofNat la) && (decide (Int.ofNat 3 < Int.ofNat la) && (decide (Int.ofNat 4 < Int.ofNat la) && (decide (Int.ofNat 4 < Int.ofNat la) && (!decide (Int.ofNat 5 < Int.ofNat la) && (true))))), .agg [.flt .f32 (r8q (b 3)), .flt .f32 (r8q (b 4)), .flt .f32 (r8d 2)]) := by kernel_rfl
theorem walk25_3_3 (la : Nat) (b : Nat → Nat) : autoW cfgA2 (fun _ => true) 5 (fun _ => none) [true, true, true, true, true, true, false] Try.f25 [.ro 1 la (.gen fun i => .int .u8 (Int.ofNat (b i))), .int .i64 3] = some (decide (Int.ofNat 3 < Int.ofNat la) && (decide (Int.ofNat 3 < Int.ofNat la) && (decide (Int.ofNat 4 < Int.ofNat la) && (decide (Int.ofNat 4 < Int.ofNat la) && (decide (Int.ofNat 5 < Int.ofNat la) && (decide (Int.ofNat 5 < Int.ofNat la) && (true)))))), .agg [.flt .f32 (r8q (b 3)), .flt .f32 (r8q (b 4)), .flt .f32 (r8q (b 5))]) := by kernel_rfl
theorem s25_at : EnvAt Try.prog 25 s25 := by
  refine ⟨⟨Try.f25, Try.func25, by kernel_rfl, by kernel_rfl⟩, fun ds cc rr h hc => ?_⟩
  unfold s25 at h
  split at h
  · rename_i la g p
    split at h
    · simp only [Option.some.injEq, Prod.mk.injEq] at h
      obtain ⟨rfl, rfl⟩ := h
      refine pure_bytes hc ?_
      by_cases h0 : 0 < la
      rotate_left
      · rw [r8c_out (p := 0) (k := 0) (by omega), r8c_out (p := 0) (k := 1) (by omega), r8c_out (p := 0) (k := 2) (by omega)]
        exact autoW_ok cfgA2_ok Try.func25 (by kernel_rfl) (lp_none _) (walk25_0_0 la (byt g)) (by rw [decide_eq_false (show ¬ Int.ofNat 0 < Int.ofNat la by simp; omega), decide_eq_false (show ¬ Int.ofNat 1 < Int.ofNat la by simp; omega), decide_eq_false (show ¬ Int.ofNat 2 < Int.ofNat la by simp; omega)]; rfl)
      by_cases h1 : 1 < la
      rotate_left
      · rw [r8c_in (p := 0) (k := 0) (by omega), r8c_out (p := 0) (k := 1) (by omega), r8c_out (p := 0) (k := 2) (by omega)]
        exact autoW_ok cfgA2_ok Try.func25 (by kernel_rfl) (lp_none _) (walk25_0_1 la (byt g)) (by rw [decide_eq_true (show Int.ofNat 0 < Int.ofNat la by simp; omega), decide_eq_false (show ¬ Int.ofNat 1 < Int.ofNat la by simp; omega), decide_eq_false (show ¬ Int.ofNat 2 < Int.ofNat la by simp; omega)]; rfl)
      by_cases h2 : 2 < la
      rotate_left
      · rw [r8c_in (p := 0) (k := 0) (by omega), r8c_in (p := 0) (k := 1) (by omega), r8c_out (p := 0) (k := 2) (by omega)]
        exact autoW_ok cfgA2_ok Try.func25 (by kernel_rfl) (lp_none _) (walk25_0_2 la (byt g)) (by rw [decide_eq_true (show Int.ofNat 0 < Int.ofNat la by simp; omega), decide_eq_true (show Int.ofNat 1 < Int.ofNat la by simp; omega), decide_eq_false (show ¬ Int.ofNat 2 < Int.ofNat la by simp; omega)]; rfl)
      rw [r8c_in (p := 0) (k := 0) (by omega), r8c_in (p := 0) (k := 1) (by omega), r8c_in (p := 0) (k := 2) (by omega)]
      exact autoW_ok cfgA2_ok Try.func25 (by kernel_rfl) (lp_none _) (walk25_0_3 la (byt g)) (by rw [decide_eq_true (show Int.ofNat 0 < Int.ofNat la by simp; omega), decide_eq_true (show Int.ofNat 1 < Int.ofNat la by simp; omega), decide_eq_true (show Int.ofNat 2 < Int.ofNat la by simp; omega)]; rfl)
    · simp only [Option.some.injEq, Prod.mk.injEq] at h
      obtain ⟨rfl, rfl⟩ := h
      refine pure_bytes hc ?_
      by_cases h0 : 3 < la
      rotate_left
      · rw [r8c_out (p := 3) (k := 0) (by omega), r8c_out (p := 3) (k := 1) (by omega), r8c_out (p := 3) (k := 2) (by omega)]
        exact autoW_ok cfgA2_ok Try.func25 (by kernel_rfl) (lp_none _) (walk25_3_0 la (byt g)) (by rw [decide_eq_false (show ¬ Int.ofNat 3 < Int.ofNat la by simp; omega), decide_eq_false (show ¬ Int.ofNat 4 < Int.ofNat la by simp; omega), decide_eq_false (show ¬ Int.ofNat 5 < Int.ofNat la by simp; omega)]; rfl)
      by_cases h1 : 4 < la
      rotate_left
      · rw [r8c_in (p := 3) (k := 0) (by omega), r8c_out (p := 3) (k := 1) (by omega), r8c_out (p := 3) (k := 2) (by omega)]
        exact autoW_ok cfgA2_ok Try.func25 (by kernel_rfl) (lp_none _) (walk25_3_1 la (byt g)) (by rw [decide_eq_true (show Int.ofNat 3 < Int.ofNat la by simp; omega), decide_eq_false (show ¬ Int.ofNat 4 < Int.ofNat la by simp; omega), decide_eq_false (show ¬ Int.ofNat 5 < Int.ofNat la by simp; omega)]; rfl)
      by_cases h2 : 5 < la
      rotate_left
      · rw [r8c_in (p := 3) (k := 0) (by omega), r8c_in (p := 3) (k := 1) (by omega), r8c_out (p := 3) (k := 2) (by omega)]
        exact autoW_ok cfgA2_ok Try.func25 (by kernel_rfl) (lp_none _) (walk25_3_2 la (byt g)) (by rw [decide_eq_true (show Int.ofNat 3 < Int.ofNat la by simp; omega), decide_eq_true (show Int.ofNat 4 < Int.ofNat la by simp; omega), decide_eq_false (show ¬ Int.ofNat 5 < Int.ofNat la by simp; omega)]; rfl)
      rw [r8c_in (p := 3) (k := 0) (by omega), r8c_in (p := 3) (k := 1) (by omega), r8c_in (p := 3) (k := 2) (by omega)]
      exact autoW_ok cfgA2_ok Try.func25 (by kernel_rfl) (lp_none _) (walk25_3_3 la (byt g)) (by rw [decide_eq_true (show Int.ofNat 3 < Int.ofNat la by simp; omega), decide_eq_true (show Int.ofNat 4 < Int.ofNat la by simp; omega), decide_eq_true (show Int.ofNat 5 < Int.ofNat la by simp; omega)]; rfl)
    · cases h
  · cases h
noncomputable def r8a (la : Nat) (b : Nat → Nat) (k n : Int) : Int := bif decide (k ≥ Int.ofNat la) then 0 else (IntKind.i64.wrap (Int.ofNat (b k.toNat))).tmod n
noncomputable def s13 : List A → Option (Bool × A)
  | [.ro 1 la (.gen g), .int .i64 k, .int .i64 n] => some (allUpTo (isU8 g) la && decide (0 ≤ k) && decide (1 < n), .int .i64 (r8a la (byt g) k n))
  | _ => none
theorem walk13_0 (la : Nat) (b : Nat → Nat) (k n : Int) : autoW cfgA2 (fun _ => true) 5 (fun _ => none) [true] Try.f13 [.ro 1 la (.gen fun i => .int .u8 (Int.ofNat (b i))), .int .i64 k, .int .i64 n] = some ((bif decide (n ≤ 1) then true else decide (k ≥ Int.ofNat la)) && true, .int .i64 0) := by kernel_rfl
theorem walk13_1 (la : Nat) (b : Nat → Nat) (k n : Int) : autoW cfgA2 (fun _ => true) 5 (fun _ => none) [false] Try.f13 [.ro 1 la (.gen fun i => .int .u8 (Int.ofNat (b i))), .int .i64 k, .int .i64 n] = some (!(bif decide (n ≤ 1) then true else decide (k ≥ Int.ofNat la)) && (decide (0 ≤ k) && decide (k < Int.ofNat la) && (!decide (n = 0) && true)), .int .i64 ((IntKind.i64.wrap (Int.ofNat (b k.toNat))).tmod n)) := by kernel_rfl
theorem s13_at : EnvAt Try.prog 13 s13 := by
  refine ⟨⟨Try.f13, Try.func13, by kernel_rfl, by kernel_rfl⟩, fun ds cc rr h hc => ?_⟩
  unfold s13 at h
  split at h
  · rename_i la g k n
    simp only [Option.some.injEq, Prod.mk.injEq] at h
    obtain ⟨rfl, rfl⟩ := h
    simp only [Bool.and_eq_true, decide_eq_true_eq] at hc
    refine pure_bytes hc.1.1 ?_
    unfold r8a
    by_cases hk : k ≥ Int.ofNat la
    · rw [decide_eq_true hk]
      exact autoW_ok cfgA2_ok Try.func13 (by kernel_rfl) (lp_none _) (walk13_0 la (byt g) k n) (by rw [decide_eq_true hk, decide_eq_false (show ¬ n ≤ 1 by omega)]; rfl)
    · rw [decide_eq_false hk]
      exact autoW_ok cfgA2_ok Try.func13 (by kernel_rfl) (lp_none _) (walk13_1 la (byt g) k n) (by
        rw [decide_eq_false hk, decide_eq_false (show ¬ n ≤ 1 by omega), decide_eq_true hc.1.2, decide_eq_true (show k < Int.ofNat la by omega), decide_eq_false (show ¬ n = 0 by omega)]; rfl)
  · cases h
noncomputable def s15T : List A → Option (Bool × A)
  | [.ro 3 m (.wires n x y z cl cur), .agg [.flt .f32 p, .flt .f32 q, .flt .f32 r]] => some (Nat.ble m 1048576 && allUpTo (shortW n) m && flOk m n x y z cl cur p q r, .tup [.agg [.flt .f32 (faX n x y z cl cur p q r 0 m), .flt .f32 (faY n x y z cl cur p q r 0 m), .flt .f32 (faZ n x y z cl cur p q r 0 m)], .bool true])
  | _ => none
theorem s15T_at : EnvAt Try.prog 15 s15T := by
  refine ⟨s54_at.1, fun ds cc r h hc => ?_⟩
  unfold s15T at h
  split at h
  · rename_i m n x y z cl cur p q r
    simp only [Option.some.injEq, Prod.mk.injEq] at h
    obtain ⟨rfl, rfl⟩ := h
    rw [Bool.and_eq_true] at hc
    have := s54_at.2 [.ro 3 m (.wires n x y z cl cur), .agg [.flt .f32 p, .flt .f32 q, .flt .f32 r]] _ _ rfl hc.1
    rw [hc.2] at this
    exact this
  · cases h
noncomputable def s21T : List A → Option (Bool × A)
  | [.agg [.ro 3 n (.vecs .f32 x y z), .bool cl, .flt .f32 cur], .agg [.flt .f32 p, .flt .f32 q, .flt .f32 r]] => some (Nat.ble n 1073741824 && fOk n cur x y z cl p q r, .tup [.agg [.flt .f32 (fwX n x y z cl cur p q r), .flt .f32 (fwY n x y z cl cur p q r), .flt .f32 (fwZ n x y z cl cur p q r)], .bool true])
  | _ => none
theorem s21T_at : EnvAt Try.prog 21 s21T := by
  refine ⟨s45_at.1, fun ds cc r h hc => ?_⟩
  unfold s21T at h
  split at h
  · rename_i n x y z cl cur p q r
    simp only [Option.some.injEq, Prod.mk.injEq] at h
    obtain ⟨rfl, rfl⟩ := h
    rw [Bool.and_eq_true] at hc
    have := s45_at.2 [.agg [.ro 3 n (.vecs .f32 x y z), .bool cl, .flt .f32 cur], .agg [.flt .f32 p, .flt .f32 q, .flt .f32 r]] _ _ rfl hc.1
    rw [hc.2] at this
    exact this
  · cases h
noncomputable def sqX (s h i : Nat) : Nat := ([[s, s, h], [fneg .f32 s, s, h], [fneg .f32 s, fneg .f32 s, h], [s, fneg .f32 s, h]].getD i []).getD 0 0
noncomputable def sqY (s h i : Nat) : Nat := ([[s, s, h], [fneg .f32 s, s, h], [fneg .f32 s, fneg .f32 s, h], [s, fneg .f32 s, h]].getD i []).getD 1 0
noncomputable def sqZ (s h i : Nat) : Nat := ([[s, s, h], [fneg .f32 s, s, h], [fneg .f32 s, fneg .f32 s, h], [s, fneg .f32 s, h]].getD i []).getD 2 0
noncomputable def sqOk (s h c : Nat) : Bool := above s && fin h && okW 4 c (sqX s h) (sqY s h) (sqZ s h)
theorem walk29 (s h c : Nat) : autoW cfgGI (fun _ => true) 0 (fun _ => none) [false, false] Try.f29 [.flt .f32 s, .flt .f32 h, .flt .f32 c] = some ((!bif !above s then true else !fin h) && ((!!okW 4 c (sqX s h) (sqY s h) (sqZ s h)) && true), .tup [.agg [.ro 3 4 (.vecs .f32 (sqX s h) (sqY s h) (sqZ s h)), .bool true, .flt .f32 c], .bool true]) := by kernel_rfl
noncomputable def s29T : List A → Option (Bool × A)
  | [.flt .f32 s, .flt .f32 h, .flt .f32 c] => some (sqOk s h c, .tup [.agg [.ro 3 4 (.vecs .f32 (sqX s h) (sqY s h) (sqZ s h)), .bool true, .flt .f32 c], .bool true])
  | _ => none
theorem s29T_at : EnvAt Try.prog 29 s29T := by
  refine ⟨⟨Try.f29, Try.func29, by kernel_rfl, by kernel_rfl⟩, fun ds cc rr h hc => ?_⟩
  unfold s29T at h
  split at h
  · rename_i s h' c
    simp only [Option.some.injEq, Prod.mk.injEq] at h
    obtain ⟨rfl, rfl⟩ := h
    unfold sqOk at hc
    simp only [Bool.and_eq_true] at hc
    exact autoW_ok cfgGI_ok Try.func29 (by kernel_rfl) (lp_none _) (walk29 s h' c) (by rw [hc.1.1, hc.1.2, hc.2]; rfl)
  · cases h
noncomputable def arGo (m : Nat) (n : Nat → Nat) (x y z : Nat → Nat → Nat) (cl : Nat → Bool) (cur : Nat → Nat) (n2 : Nat) (x2 y2 z2 : Nat → Nat) (cl2 : Bool) (cur2 pp : Nat) : Bool := arOk m n x y z cur n2 cur2 x2 y2 z2 (Int.ofNat pp) && fin (arR m n x y z cl cur (sg n2 x2 y2 z2) pp (can .f32 0) (cnt n2 cl2))
noncomputable def arV (m : Nat) (n : Nat → Nat) (x y z : Nat → Nat → Nat) (cl : Nat → Bool) (cur : Nat → Nat) (n2 : Nat) (x2 y2 z2 : Nat → Nat) (cl2 : Bool) (pp : Nat) : Nat := arR m n x y z cl cur (sg n2 x2 y2 z2) pp (can .f32 0) (cnt n2 cl2)
noncomputable def s32T : List A → Option (Bool × A)
  | [.ro 3 m (.wires n x y z cl cur), .agg [.ro 3 n2 (.vecs .f32 x2 y2 z2), .bool cl2, .flt .f32 cur2], .int .i64 (Int.ofNat pp)] => some (Nat.ble m 1048576 && allUpTo (shortW n) m && Nat.ble n2 1048576 && arGo m n x y z cl cur n2 x2 y2 z2 cl2 cur2 pp, .tup [.flt .f32 (arV m n x y z cl cur n2 x2 y2 z2 cl2 pp), .bool true])
  | _ => none
theorem s32T_at : EnvAt Try.prog 32 s32T := by
  refine ⟨s60a_at.1, fun ds cc r h hc => ?_⟩
  unfold s32T at h
  split at h
  · rename_i m n x y z cl cur n2 x2 y2 z2 cl2 cur2 pp
    simp only [Option.some.injEq, Prod.mk.injEq] at h
    obtain ⟨rfl, rfl⟩ := h
    rw [Bool.and_eq_true] at hc
    have := s60a_at.2 [.ro 3 m (.wires n x y z cl cur), .agg [.ro 3 n2 (.vecs .f32 x2 y2 z2), .bool cl2, .flt .f32 cur2], .int .i64 (Int.ofNat pp)] _ _ rfl hc.1
    have h2 : (arOk m n x y z cur n2 cur2 x2 y2 z2 (Int.ofNat pp) && fin (arR m n x y z cl cur (sg n2 x2 y2 z2) pp (can .f32 0) (cnt n2 cl2))) = true := hc.2
    rw [h2] at this
    exact this
  · cases h
noncomputable def envD0 : List (Nat × (List A → Option (Bool × A))) := (28, auto cfgA1 Try.f28) :: (23, sGap) :: (29, s29T) :: (21, s21T) :: (15, s15T) :: (25, s25) :: (13, s13) :: (11, auto cfgA1 Try.f11) :: (33, s122T) :: (34, s34T) :: (36, s37T) :: (32, s32T) :: (27, s26T) :: (12, s12) :: envA1
theorem envD0_ok : EnvOK Try.prog (look envD0) := env_cons (auto_at cfgA1_ok Try.func28 (by kernel_rfl) (by kernel_rfl)) (env_cons sGap_at (env_cons s29T_at (env_cons s21T_at (env_cons s15T_at (env_cons s25_at (env_cons s13_at (env_cons (auto_at cfgA1_ok Try.func11 (by kernel_rfl) (by kernel_rfl)) (env_cons s122T_at (env_cons s34T_at (env_cons s37T_at (env_cons s32T_at (env_cons s26T_at (env_cons s12_at envA1_ok)))))))))))))
noncomputable def cfgD0 : Cfg := mkCfg tab [] xts (look envD0)
theorem cfgD0_ok : CfgOK Try.prog cfgD0 := cfg_ok tab_eq (no_fts _) xts_ok envD0_ok mixed
end Go.Fw.E1

/-
  Moments in fields: contracts.
-/
namespace Go.Fw.E1
open Go.Proofs
noncomputable def s91T : List A → Option (Bool × A)
  | [.agg [.flt .f32 a, .flt .f32 b, .flt .f32 c], .ro 3 m (.wires n x y z cl cur), .agg [.flt .f32 p, .flt .f32 q, .flt .f32 r]] => some (vfin a b c && (Nat.ble m 1048576 && allUpTo (shortW n) m && flOk m n x y z cl cur p q r), .tup [.agg [.flt .f32 (faX n x y z cl cur p q r 0 m), .flt .f32 (faY n x y z cl cur p q r 0 m), .flt .f32 (faZ n x y z cl cur p q r 0 m)], .bool true])
  | _ => none
theorem walk91 (a b c m : Nat) (n : Nat → Nat) (x y z : Nat → Nat → Nat) (cl : Nat → Bool) (cur : Nat → Nat) (p q r : Nat) : autoW cfgD0 (fun _ => true) 0 (fun _ => none) [false] Try.f91 [.agg [.flt .f32 a, .flt .f32 b, .flt .f32 c], .ro 3 m (.wires n x y z cl cur), .agg [.flt .f32 p, .flt .f32 q, .flt .f32 r]] = some (!!vfin a b c && (Nat.ble m 1048576 && allUpTo (shortW n) m && flOk m n x y z cl cur p q r && true), .tup [.agg [.flt .f32 (faX n x y z cl cur p q r 0 m), .flt .f32 (faY n x y z cl cur p q r 0 m), .flt .f32 (faZ n x y z cl cur p q r 0 m)], .bool true]) := by kernel_rfl
theorem s91T_at : EnvAt Try.prog 91 s91T := by
  refine ⟨⟨Try.f91, Try.func91, by kernel_rfl, by kernel_rfl⟩, fun ds cc rr h hc => ?_⟩
  unfold s91T at h
  split at h
  · rename_i a b c m n x y z cl cur p q r
    simp only [Option.some.injEq, Prod.mk.injEq] at h
    obtain ⟨rfl, rfl⟩ := h
    rw [Bool.and_eq_true] at hc
    exact autoW_ok cfgD0_ok Try.func91 (by kernel_rfl) (lp_none _) (walk91 a b c m n x y z cl cur p q r) (by rw [hc.1, hc.2]; rfl)
  · cases h
noncomputable def crX (_a b c _x y z : Nat) : Nat := fop .sub .f32 (fop .mul .f32 b z) (fop .mul .f32 c y)
noncomputable def crY (a _b c x _y z : Nat) : Nat := fop .sub .f32 (fop .mul .f32 c x) (fop .mul .f32 a z)
noncomputable def crZ (a b _c x y _z : Nat) : Nat := fop .sub .f32 (fop .mul .f32 a y) (fop .mul .f32 b x)
noncomputable def s92T : List A → Option (Bool × A)
  | [.agg [.flt .f32 a, .flt .f32 b, .flt .f32 c], .agg [.flt .f32 x, .flt .f32 y, .flt .f32 z]] => some (true, .agg [.flt .f32 (crX a b c x y z), .flt .f32 (crY a b c x y z), .flt .f32 (crZ a b c x y z)])
  | _ => none
theorem s92T_at : EnvAt Try.prog 92 s92T := by
  refine ⟨s147_at.1, fun ds cc r h hc => ?_⟩
  unfold s92T at h
  split at h
  · rename_i a b c x y z
    simp only [Option.some.injEq, Prod.mk.injEq] at h
    obtain ⟨rfl, rfl⟩ := h
    exact s147_at.2 [.agg [.flt .f32 a, .flt .f32 b, .flt .f32 c], .agg [.flt .f32 x, .flt .f32 y, .flt .f32 z]] _ _ rfl rfl
  · cases h
noncomputable def s76T : List A → Option (Bool × A)
  | [.agg [.flt .f32 a, .flt .f32 b, .flt .f32 c]] => some (vfin a b c, .tup [.agg [.flt .f32 a, .flt .f32 b, .flt .f32 c], .bool true])
  | _ => none
theorem s76T_at : EnvAt Try.prog 76 s76T := by
  refine ⟨s101_at.1, fun ds cc r h hc => ?_⟩
  unfold s76T at h
  split at h
  · rename_i a b c
    simp only [Option.some.injEq, Prod.mk.injEq] at h
    obtain ⟨rfl, rfl⟩ := h
    have := s101_at.2 [.agg [.flt .f32 a, .flt .f32 b, .flt .f32 c]] _ _ rfl rfl
    rw [hc] at this
    exact this
  · cases h
noncomputable def s78T : List A → Option (Bool × A)
  | [.flt .f32 a] => some (fin a, .tup [.flt .f32 a, .bool true])
  | _ => none
theorem s78T_at : EnvAt Try.prog 78 s78T := by
  refine ⟨s92_at.1, fun ds cc r h hc => ?_⟩
  unfold s78T at h
  split at h
  · rename_i a
    simp only [Option.some.injEq, Prod.mk.injEq] at h
    obtain ⟨rfl, rfl⟩ := h
    have := s92_at.2 [.flt .f32 a] _ _ rfl rfl
    rw [hc] at this
    exact this
  · cases h
noncomputable def envD1 : List (Nat × (List A → Option (Bool × A))) := (92, s92T) :: (76, s76T) :: (78, s78T) :: (91, s91T) :: (93, auto cfgD0 Try.f93) :: envD0
theorem envD1_ok : EnvOK Try.prog (look envD1) := env_cons s92T_at (env_cons s76T_at (env_cons s78T_at (env_cons s91T_at (env_cons (auto_at cfgD0_ok Try.func93 (by kernel_rfl) (by kernel_rfl)) envD0_ok))))
noncomputable def cfgD1 : Cfg := mkCfg tab [] xts (look envD1)
theorem cfgD1_ok : CfgOK Try.prog cfgD1 := cfg_ok tab_eq (no_fts _) xts_ok envD1_ok mixed
end Go.Fw.E1

/-
  Sources and whirls of fields: contracts.
-/
namespace Go.Fw.E1
open Go.Proofs
end Go.Fw.E1

/-
  Areas and moments of wires; fields on axes, far fields: contracts.
-/
namespace Go.Fw.E1
open Go.Proofs
noncomputable def arX (g : Nat → Nat → Nat) (s : Nat) : Nat → Nat
  | 0 => s
  | k + 1 => fop .add .f32 (arX g s k) (crX (g k 0) (g k 1) (g k 2) (g k 3) (g k 4) (g k 5))
noncomputable def arY (g : Nat → Nat → Nat) (s : Nat) : Nat → Nat
  | 0 => s
  | k + 1 => fop .add .f32 (arY g s k) (crY (g k 0) (g k 1) (g k 2) (g k 3) (g k 4) (g k 5))
noncomputable def arZ (g : Nat → Nat → Nat) (s : Nat) : Nat → Nat
  | 0 => s
  | k + 1 => fop .add .f32 (arZ g s k) (crZ (g k 0) (g k 1) (g k 2) (g k 3) (g k 4) (g k 5))
noncomputable def IAr (n cur s t u s2 t2 u2 m : Nat) (x y z : Nat → Nat) (cl : Bool) (gg : Nat → Nat → Nat) (k : Nat) : List A := [.ptr 0 0, .ptr 16 0, .ptr 48 0, .sl 96 m, .int .i64 (Int.ofNat m), .int .i64 (Int.ofNat k)]
noncomputable def JAr (n cur s t u s2 t2 u2 m : Nat) (x y z : Nat → Nat) (cl : Bool) (gg : Nat → Nat → Nat) (k : Nat) : List O := [.row 0 6 m (.flns .f32 6 gg), .var [.flt .f32 (arX gg s k), .flt .f32 (arY gg t k), .flt .f32 (arZ gg u k)], .var [.flt .f32 s2, .flt .f32 t2, .flt .f32 u2], .var [.ro 3 n (.vecs .f32 x y z), .bool cl, .flt .f32 cur]]
theorem roundAr (n cur s t u s2 t2 u2 m : Nat) (x y z : Nat → Nat) (cl : Bool) (gg : Nat → Nat → Nat) (k : Nat) (L : XK → List A → List (Option O) → Prop) :
    ((exec cfg15 (fun _ => true) (fun _ => none) 0 1000 (loopOf Try.f79 0) (litSt Try.f79.ntmps 144 [1, 2, 3, 8, 9, 10] [96, 48, 16, 0] (IAr n cur s t u s2 t2 u2 m x y z cl gg k) (JAr n cur s t u s2 t2 u2 m x y z cl gg k))).rt [1, 2, 3, 8, 9, 10] [96, 48, 16, 0]).Ok L =
    bif decide (Int.ofNat k < Int.ofNat m) then
      bif decide (Int.ofNat k < Int.ofNat m) then
        L (XK.normal) ([A.ptr 0 0, A.ptr 16 0, A.ptr 48 0, A.sl 96 m, A.int .i64 (Int.ofNat m), A.int .i64 (IntKind.i64.wrap (Int.ofNat k + Int.ofNat 1))]) ([some (O.row 0 6 m (Row.flns .f32 6 gg)), some (O.var [A.flt .f32 (fop .add .f32 (arX gg s k) (fop .sub .f32 (fop .mul .f32 (gg k 1) (gg k 5)) (fop .mul .f32 (gg k 2) (gg k 4)))), A.flt .f32 (fop .add .f32 (arY gg t k) (fop .sub .f32 (fop .mul .f32 (gg k 2) (gg k 3)) (fop .mul .f32 (gg k 0) (gg k 5)))), A.flt .f32 (fop .add .f32 (arZ gg u k) (fop .sub .f32 (fop .mul .f32 (gg k 0) (gg k 4)) (fop .mul .f32 (gg k 1) (gg k 3))))]), some (O.var [A.flt .f32 s2, A.flt .f32 t2, A.flt .f32 u2]), some (O.var [A.ro 3 n (Row.vecs .f32 x y z), A.bool cl, A.flt .f32 cur])])
      else
        False
    else
      L (XK.exit 0) ([A.ptr 0 0, A.ptr 16 0, A.ptr 48 0, A.sl 96 m, A.int .i64 (Int.ofNat m), A.int .i64 (Int.ofNat k)]) ([some (O.row 0 6 m (Row.flns .f32 6 gg)), some (O.var [A.flt .f32 (arX gg s k), A.flt .f32 (arY gg t k), A.flt .f32 (arZ gg u k)]), some (O.var [A.flt .f32 s2, A.flt .f32 t2, A.flt .f32 u2]), some (O.var [A.ro 3 n (Row.vecs .f32 x y z), A.bool cl, A.flt .f32 cur])]) := by kernel_rfl
noncomputable def FAr : List A → List (Option O) → Option R3
  | [.ptr 0 0, .ptr 16 0, .ptr 48 0, .sl 96 m, .int .i64 l, .int .i64 0], [some (.row 0 6 m2 (.flns .f32 6 gg)), some (.var [.flt .f32 s, .flt .f32 t, .flt .f32 u]), some (.var [.flt .f32 s2, .flt .f32 t2, .flt .f32 u2]), some (.var [.ro 3 n (.vecs .f32 x y z), .bool cl, .flt .f32 cur])] => some (.ite (decide (l = Int.ofNat m) && Nat.beq m m2 && Nat.ble m 1073741824) (.leaf .normal (IAr n cur s t u s2 t2 u2 m x y z cl gg (m)) (JAr n cur s t u s2 t2 u2 m x y z cl gg (m))) .fail)
  | _, _ => none
theorem loopAr : CodeOK Try.prog (fun _ σ => sumAt Try.f79.ntmps 144 [1, 2, 3, 8, 9, 10] [96, 48, 16, 0] FAr σ) (.block 0 (.loop (loopOf Try.f79 0))) := by
  refine block_ok (own := fun _ => true) (lp := (fun _ => none)) (un := 0) (fuel := 1000) cfg15_ok (lp_none _) fun az os R hF hok => ?_
  unfold FAr at hF
  split at hF
  · rename_i m l m2 gg s t u s2 t2 u2 n x y z cl cur
    injection hF with hF
    subst hF
    have hg := hok.guard
    have hg' := hg
    simp only [Bool.and_eq_true, Nat.ble_eq, Nat.beq_eq, decide_eq_true_eq] at hg'
    obtain ⟨⟨rfl, rfl⟩, hm⟩ := hg'
    refine for_fact (ids := [96, 48, 16, 0]) (fun _ => true) (m) (IAr n cur s t u s2 t2 u2 m x y z cl gg) (JAr n cur s t u s2 t2 u2 m x y z cl gg) _ (.ret) (IAr n cur s t u s2 t2 u2 m x y z cl gg) (IAr n cur s t u s2 t2 u2 m x y z cl gg) (IAr n cur s t u s2 t2 u2 m x y z cl gg (m)) (JAr n cur s t u s2 t2 u2 m x y z cl gg (m)) rfl (OSims.self _) (fun _ => rfl) (fun _ => rfl) (fun _ => ALe.self _) (fun _ => rfl) (ALe.self _) (OSims.self _) rfl (fun h => by cases h) (fun k hk L h1 h2 h3 => ?_) fun L hL => ?_
    · rw [roundAr]
      by_cases hkm : k < m
      · refine condT (lt_dec hkm) ?_
        rw [wrap_succ (by omega)]
        refine condT (lt_dec hkm) ?_
        exact h1 hkm rfl _ (OSims.self (JAr n cur s t u s2 t2 u2 m x y z cl gg (k + 1)))
      · refine condE (ge_dec (by omega)) ?_
        obtain rfl : k = m := by omega
        exact h3 rfl
    · exact ⟨fun _ => hL.1 hg, fun N _ h => by cases h⟩
  · cases hF
noncomputable def hfX (n : Nat) (x y z : Nat → Nat) (cl : Bool) : Nat := fop .mul .f32 (arX (sg n x y z) 0 (cnt n cl)) (can .f32 1056964608)
noncomputable def hfY (n : Nat) (x y z : Nat → Nat) (cl : Bool) : Nat := fop .mul .f32 (arY (sg n x y z) 0 (cnt n cl)) (can .f32 1056964608)
noncomputable def hfZ (n : Nat) (x y z : Nat → Nat) (cl : Bool) : Nat := fop .mul .f32 (arZ (sg n x y z) 0 (cnt n cl)) (can .f32 1056964608)
noncomputable def lpAr : List (Nat × (St → T)) := [(0, sumAt Try.f79.ntmps 144 [1, 2, 3, 8, 9, 10] [96, 48, 16, 0] FAr)]
theorem lpAr_ok : LpOK Try.prog (look lpAr) (bodyOf Try.f79) := lp_loops (by kernel_rfl) (by kernel_rfl) fun p hp => by
  simp only [lpAr, List.mem_cons, List.not_mem_nil, or_false] at hp
  rcases hp with rfl
  · exact loopAr
theorem autoAr (n cur : Nat) (x y z : Nat → Nat) (cl : Bool) : autoLp cfg15 (look lpAr) Try.f79 [.agg [.ro 3 n (.vecs .f32 x y z), .bool cl, .flt .f32 cur]] =
    some (Nat.ble 1 n && n.ble 1073741824 && (decide (Int.ofNat (cnt n cl) = Int.ofNat (cnt n cl)) && (cnt n cl).beq (cnt n cl) && (cnt n cl).ble 1073741824 && true), A.agg [A.flt .f32 (fop .mul .f32 (arX (sg n x y z) 0 (cnt n cl)) (can .f32 1056964608)), A.flt .f32 (fop .mul .f32 (arY (sg n x y z) 0 (cnt n cl)) (can .f32 1056964608)), A.flt .f32 (fop .mul .f32 (arZ (sg n x y z) 0 (cnt n cl)) (can .f32 1056964608))]) := by kernel_rfl
noncomputable def sAr : List A → Option (Bool × A)
  | [.agg [.ro 3 n (.vecs .f32 x y z), .bool cl, .flt .f32 cur]] => some (Nat.ble 1 n && Nat.ble n 1073741824, .agg [.flt .f32 (hfX n x y z cl), .flt .f32 (hfY n x y z cl), .flt .f32 (hfZ n x y z cl)])
  | _ => none
theorem sAr_at : EnvAt Try.prog 79 sAr := of_auto cfg15_ok lpAr_ok Try.func79 (by kernel_rfl) (by kernel_rfl) fun ds cc rr h hc => by
  unfold sAr at h
  split at h
  · rename_i n x y z cl cur
    simp only [Option.some.injEq, Prod.mk.injEq] at h
    obtain ⟨rfl, rfl⟩ := h
    refine auto_fit (autoAr n cur x y z cl) ?_ ?_
    · rfl
    · simp only [Bool.and_eq_true, Nat.ble_eq] at hc
      have h3 := cnt_le n cl
      rw [ble_of hc.1, ble_of hc.2, ble_of (show cnt n cl ≤ 1073741824 by omega)]
      simp
  · cases h
end Go.Fw.E1

/-
  Areas and moments of wires; fields on axes, far fields: contracts by success.
-/
namespace Go.Fw.E1
open Go.Proofs
noncomputable def axV (r h c : Nat) : Nat := fop .quo .f32 (fop .mul .f32 (fop .mul .f32 (can .f32 1086918619) c) (fop .mul .f32 r r)) (fop .mul .f32 (fop .add .f32 (fop .mul .f32 r r) (fop .mul .f32 h h)) (root32 (fop .add .f32 (fop .mul .f32 r r) (fop .mul .f32 h h))))
theorem walk22 (r h c : Nat) : autoW cfgD1 (fun _ => true) 0 (fun _ => none) [false] Try.f22 [.flt .f32 r, .flt .f32 h, .flt .f32 c] = some ((!bif bif !above r then true else !fin h then true else !fin c) && (fin (axV r h c) && true), .tup [.flt .f32 (axV r h c), .bool true]) := by kernel_rfl
noncomputable def sAx : List A → Option (Bool × A)
  | [.flt .f32 r, .flt .f32 h, .flt .f32 c] => some (above r && fin h && fin c && fin (axV r h c), .tup [.flt .f32 (axV r h c), .bool true])
  | _ => none
theorem sAx_at : EnvAt Try.prog 22 sAx := by
  refine ⟨⟨Try.f22, Try.func22, by kernel_rfl, by kernel_rfl⟩, fun ds cc rr h hc => ?_⟩
  unfold sAx at h
  split at h
  · rename_i r h' c
    simp only [Option.some.injEq, Prod.mk.injEq] at h
    obtain ⟨rfl, rfl⟩ := h
    simp only [Bool.and_eq_true] at hc
    exact autoW_ok cfgD1_ok Try.func22 (by kernel_rfl) (lp_none _) (walk22 r h' c) (by rw [hc.1.1.1, hc.1.1.2, hc.1.2, hc.2]; rfl)
  · cases h
noncomputable def ffS (a b c p q r : Nat) : Nat := fop .quo .f32 (fop .mul .f32 (can .f32 1077936128) (inn a b c p q r)) (inn p q r p q r)
noncomputable def ffI (p q r : Nat) : Nat := fop .quo .f32 (can .f32 1065353216) (fop .mul .f32 (inn p q r p q r) (root32 (inn p q r p q r)))
noncomputable def ffC (a e a' b c p q r : Nat) : Nat := fop .mul .f32 (fop .sub .f32 (fop .mul .f32 e (ffS a' b c p q r)) a) (ffI p q r)
theorem walkFar (a b c p q r : Nat) : autoW cfgD1 (fun _ => true) 0 (fun _ => none) [false] Try.f26 [.agg [.flt .f32 a, .flt .f32 b, .flt .f32 c], .agg [.flt .f32 p, .flt .f32 q, .flt .f32 r]] = some ((!bif !vfin a b c then true else !vfin p q r) && ((vfin (ffC a p a b c p q r) (ffC b q a b c p q r) (ffC c r a b c p q r) && true) && true), .tup [.agg [.flt .f32 (ffC a p a b c p q r), .flt .f32 (ffC b q a b c p q r), .flt .f32 (ffC c r a b c p q r)], .bool true]) := by kernel_rfl
noncomputable def sFar : List A → Option (Bool × A)
  | [.agg [.flt .f32 a, .flt .f32 b, .flt .f32 c], .agg [.flt .f32 p, .flt .f32 q, .flt .f32 r]] => some (vfin a b c && vfin p q r && vfin (ffC a p a b c p q r) (ffC b q a b c p q r) (ffC c r a b c p q r), .tup [.agg [.flt .f32 (ffC a p a b c p q r), .flt .f32 (ffC b q a b c p q r), .flt .f32 (ffC c r a b c p q r)], .bool true])
  | _ => none
theorem sFar_at : EnvAt Try.prog 26 sFar := by
  refine ⟨⟨Try.f26, Try.func26, by kernel_rfl, by kernel_rfl⟩, fun ds cc rr h hc => ?_⟩
  unfold sFar at h
  split at h
  · rename_i a b c p q r
    simp only [Option.some.injEq, Prod.mk.injEq] at h
    obtain ⟨rfl, rfl⟩ := h
    simp only [Bool.and_eq_true] at hc
    exact autoW_ok cfgD1_ok Try.func26 (by kernel_rfl) (lp_none _) (walkFar a b c p q r) (by rw [hc.1.1, hc.1.2, hc.2]; rfl)
  · cases h
noncomputable def envX1 : List (Nat × (List A → Option (Bool × A))) := (22, sAx) :: (26, sFar) :: (79, sAr) :: envD1
theorem envX1_ok : EnvOK Try.prog (look envX1) := env_cons sAx_at (env_cons sFar_at (env_cons sAr_at envD1_ok))
noncomputable def cfgX1 : Cfg := mkCfg tab [] xts (look envX1)
theorem cfgX1_ok : CfgOK Try.prog cfgX1 := cfg_ok tab_eq (no_fts _) xts_ok envX1_ok mixed
theorem walk24 (n cur : Nat) (x y z : Nat → Nat) (cl : Bool) : autoW cfgX1 (fun _ => true) 0 (fun _ => none) [false] Try.f24 [.agg [.ro 3 n (.vecs .f32 x y z), .bool cl, .flt .f32 cur]] = some (n.ble 4611686018427387000 && ((!!okW n cur x y z) && ((vfin (fop .mul .f32 (hfX n x y z cl) cur) (fop .mul .f32 (hfY n x y z cl) cur) (fop .mul .f32 (hfZ n x y z cl) cur) && (Nat.ble 1 n && n.ble 1073741824 && true)) && true)), .tup [.agg [.flt .f32 (fop .mul .f32 (hfX n x y z cl) cur), .flt .f32 (fop .mul .f32 (hfY n x y z cl) cur), .flt .f32 (fop .mul .f32 (hfZ n x y z cl) cur)], .bool true]) := by kernel_rfl
noncomputable def s24T : List A → Option (Bool × A)
  | [.agg [.ro 3 n (.vecs .f32 x y z), .bool cl, .flt .f32 cur]] => some (okW n cur x y z && vfin (fop .mul .f32 (hfX n x y z cl) cur) (fop .mul .f32 (hfY n x y z cl) cur) (fop .mul .f32 (hfZ n x y z cl) cur), .tup [.agg [.flt .f32 (fop .mul .f32 (hfX n x y z cl) cur), .flt .f32 (fop .mul .f32 (hfY n x y z cl) cur), .flt .f32 (fop .mul .f32 (hfZ n x y z cl) cur)], .bool true])
  | _ => none
theorem s24T_at : EnvAt Try.prog 24 s24T := by
  refine ⟨⟨Try.f24, Try.func24, by kernel_rfl, by kernel_rfl⟩, fun ds cc rr h hc => ?_⟩
  unfold s24T at h
  split at h
  · rename_i n x y z cl cur
    simp only [Option.some.injEq, Prod.mk.injEq] at h
    obtain ⟨rfl, rfl⟩ := h
    simp only [Bool.and_eq_true] at hc
    have h2 := okW_n hc.1
    exact autoW_ok cfgX1_ok Try.func24 (by kernel_rfl) (lp_none _) (walk24 n cur x y z cl) (by rw [hc.1, hc.2, ble_of (show n ≤ 4611686018427387000 by omega), ble_of (show 1 ≤ n by omega), ble_of (show n ≤ 1073741824 by omega)]; rfl)
  · cases h
theorem walk51 (n cur : Nat) (x y z : Nat → Nat) (cl : Bool) : autoW cfgX1 (fun _ => true) 0 (fun _ => none) [false] Try.f51 [.agg [.ro 3 n (.vecs .f32 x y z), .bool cl, .flt .f32 cur]] = some (n.ble 4611686018427387000 && ((!!okW n cur x y z) && ((Nat.ble 1 n && n.ble 1073741824) && (vfin (hfX n x y z cl) (hfY n x y z cl) (hfZ n x y z cl) && true))), .tup [.agg [.flt .f32 (hfX n x y z cl), .flt .f32 (hfY n x y z cl), .flt .f32 (hfZ n x y z cl)], .bool true]) := by kernel_rfl
noncomputable def s51T : List A → Option (Bool × A)
  | [.agg [.ro 3 n (.vecs .f32 x y z), .bool cl, .flt .f32 cur]] => some (okW n cur x y z && vfin (hfX n x y z cl) (hfY n x y z cl) (hfZ n x y z cl), .tup [.agg [.flt .f32 (hfX n x y z cl), .flt .f32 (hfY n x y z cl), .flt .f32 (hfZ n x y z cl)], .bool true])
  | _ => none
theorem s51T_at : EnvAt Try.prog 51 s51T := by
  refine ⟨⟨Try.f51, Try.func51, by kernel_rfl, by kernel_rfl⟩, fun ds cc rr h hc => ?_⟩
  unfold s51T at h
  split at h
  · rename_i n x y z cl cur
    simp only [Option.some.injEq, Prod.mk.injEq] at h
    obtain ⟨rfl, rfl⟩ := h
    simp only [Bool.and_eq_true] at hc
    have h2 := okW_n hc.1
    exact autoW_ok cfgX1_ok Try.func51 (by kernel_rfl) (lp_none _) (walk51 n cur x y z cl) (by rw [hc.1, hc.2, ble_of (show n ≤ 4611686018427387000 by omega), ble_of (show 1 ≤ n by omega), ble_of (show n ≤ 1073741824 by omega)]; rfl)
  · cases h
noncomputable def envX2 : List (Nat × (List A → Option (Bool × A))) := (24, s24T) :: (51, s51T) :: envX1
theorem envX2_ok : EnvOK Try.prog (look envX2) := env_cons s24T_at (env_cons s51T_at envX1_ok)
end Go.Fw.E1

/-
  The source of choices: its next byte, walked once and for all.
-/
namespace Go.Fw.E1
open Go.Proofs
noncomputable def gIs (b : Nat → Nat) (g : Nat → A) : Bool := @decide (g = fun i => .int .u8 (Int.ofNat (b i))) (Classical.propDecidable _)
theorem gIs_eq {b : Nat → Nat} {g : Nat → A} (h : gIs b g = true) : g = fun i => .int .u8 (Int.ofNat (b i)) := @of_decide_eq_true _ (Classical.propDecidable _) h
theorem gIs_self (b : Nat → Nat) : gIs b (fun i => .int .u8 (Int.ofNat (b i))) = true := @decide_eq_true _ (Classical.propDecidable _) rfl
noncomputable def srcB (la : Nat) (b : Nat → Nat) (k : Int) : Int := bif decide (k < Int.ofNat la) then IntKind.i64.wrap (Int.ofNat (b k.toNat)) else Int.ofNat 0
noncomputable def srcS (la : Nat) (b : Nat → Nat) (k sd : Int) : Int := IntKind.u64.wrap (IntKind.u64.wrap (IntKind.u64.wrap (sd * Int.ofNat 6364136223846793005) + IntKind.u64.wrap (srcB la b k)) + Int.ofNat 1442695040888963407)
noncomputable def srcV (la : Nat) (b : Nat → Nat) (k sd : Int) : Int := bif decide (k < Int.ofNat la) then IntKind.i64.wrap (Int.ofNat (b k.toNat)) else IntKind.i64.wrap (bandI .u64 (shrI .u64 (srcS la b k sd) (Int.ofNat 40)) (Int.ofNat 255))
noncomputable def nextF (b : Nat → Nat) : List A → O → Option (Bool × List A × O)
  | [.ptr 112 0, _], .var [.ro 1 la (.gen g), .int .i64 k, .int .u64 sd] => some (gIs b g && (decide (0 ≤ k) && decide (k ≤ 1000000)), [.ptr 112 0, .int .i64 (srcV la b k sd)], .var [.ro 1 la (.gen g), .int .i64 (k + 1), .int .u64 (srcS la b k sd)])
  | _, _ => none
noncomputable def nextS (b : Nat → Nat) (σ : St) : T := sumF Try.f114.ntmps [0, 2] 112 (nextF b) σ
noncomputable def cfgX2s : Cfg := mkCfg (nilTab tab) [] xts (look envX2)
theorem cfgX2s_ok : CfgOK Try.prog cfgX2s := cfgN_ok' tab_eq (no_fts _) xts_ok envX2_ok mixed
theorem round114 (lo nx la : Nat) (b : Nat → Nat) (x : A) (k sd : Int) (M : List (Nat × O)) (L : XK → List A → List (Nat × O) → Prop) :
    ((exec cfgX2s (fun _ => true) (fun _ => none) 0 1000 (bodyOf Try.f114) (stM Try.f114.ntmps lo nx [0, 2] [.ptr 112 0, x] 112 (.var [.ro 1 la (.gen fun i => .int .u8 (Int.ofNat (b i))), .int .i64 k, .int .u64 sd]) M)).rm [0, 2]).Ok L =
    bif decide (k < Int.ofNat la) then
      bif decide (0 ≤ k) && decide (k < Int.ofNat la) then
        bif decide (IntKind.i64.wrap (k + 1) ≤ Int.ofNat la) then
          L (XK.ret) ([A.ptr 112 0, A.int .i64 (IntKind.i64.wrap (Int.ofNat (b k.toNat)))]) ((112, O.var [A.ro 1 la (Row.gen fun i => A.int .u8 (Int.ofNat (b i))), A.int .i64 (IntKind.i64.wrap (k + Int.ofNat 1)), A.int IntKind.u64 (IntKind.u64.wrap (IntKind.u64.wrap (IntKind.u64.wrap (sd * Int.ofNat 6364136223846793005) + IntKind.u64.wrap (IntKind.i64.wrap (Int.ofNat (b k.toNat)))) + Int.ofNat 1442695040888963407))]) :: (112, O.var [A.ro 1 la (Row.gen fun i => A.int .u8 (Int.ofNat (b i))), A.int .i64 (IntKind.i64.wrap (k + Int.ofNat 1)), A.int IntKind.u64 sd]) :: (112, O.var [A.ro 1 la (Row.gen fun i => A.int .u8 (Int.ofNat (b i))), A.int .i64 k, A.int IntKind.u64 sd]) :: M)
        else
          L (XK.ret) ([A.ptr 112 0, A.int .i64 (IntKind.i64.wrap (bandI IntKind.u64 (shrI IntKind.u64 (IntKind.u64.wrap (IntKind.u64.wrap (IntKind.u64.wrap (sd * Int.ofNat 6364136223846793005) + IntKind.u64.wrap (IntKind.i64.wrap (Int.ofNat (b k.toNat)))) + Int.ofNat 1442695040888963407)) (Int.ofNat 40)) (Int.ofNat 255)))]) ((112, O.var [A.ro 1 la (Row.gen fun i => A.int .u8 (Int.ofNat (b i))), A.int .i64 (IntKind.i64.wrap (k + Int.ofNat 1)), A.int IntKind.u64 (IntKind.u64.wrap (IntKind.u64.wrap (IntKind.u64.wrap (sd * Int.ofNat 6364136223846793005) + IntKind.u64.wrap (IntKind.i64.wrap (Int.ofNat (b k.toNat)))) + Int.ofNat 1442695040888963407))]) :: (112, O.var [A.ro 1 la (Row.gen fun i => A.int .u8 (Int.ofNat (b i))), A.int .i64 (IntKind.i64.wrap (k + Int.ofNat 1)), A.int IntKind.u64 sd]) :: (112, O.var [A.ro 1 la (Row.gen fun i => A.int .u8 (Int.ofNat (b i))), A.int .i64 k, A.int IntKind.u64 sd]) :: M)
      else
        False
    else
      bif decide (IntKind.i64.wrap (k + 1) ≤ Int.ofNat la) then
        L (XK.ret) ([A.ptr 112 0, A.int .i64 (Int.ofNat 0)]) ((112, O.var [A.ro 1 la (Row.gen fun i => A.int .u8 (Int.ofNat (b i))), A.int .i64 (IntKind.i64.wrap (k + Int.ofNat 1)), A.int IntKind.u64 (IntKind.u64.wrap (IntKind.u64.wrap (IntKind.u64.wrap (sd * Int.ofNat 6364136223846793005) + IntKind.u64.wrap (Int.ofNat 0)) + Int.ofNat 1442695040888963407))]) :: (112, O.var [A.ro 1 la (Row.gen fun i => A.int .u8 (Int.ofNat (b i))), A.int .i64 (IntKind.i64.wrap (k + Int.ofNat 1)), A.int IntKind.u64 sd]) :: (112, O.var [A.ro 1 la (Row.gen fun i => A.int .u8 (Int.ofNat (b i))), A.int .i64 k, A.int IntKind.u64 sd]) :: M)
      else
        L (XK.ret) ([A.ptr 112 0, A.int .i64 (IntKind.i64.wrap (bandI IntKind.u64 (shrI IntKind.u64 (IntKind.u64.wrap (IntKind.u64.wrap (IntKind.u64.wrap (sd * Int.ofNat 6364136223846793005) + IntKind.u64.wrap (Int.ofNat 0)) + Int.ofNat 1442695040888963407)) (Int.ofNat 40)) (Int.ofNat 255)))]) ((112, O.var [A.ro 1 la (Row.gen fun i => A.int .u8 (Int.ofNat (b i))), A.int .i64 (IntKind.i64.wrap (k + Int.ofNat 1)), A.int IntKind.u64 (IntKind.u64.wrap (IntKind.u64.wrap (IntKind.u64.wrap (sd * Int.ofNat 6364136223846793005) + IntKind.u64.wrap (Int.ofNat 0)) + Int.ofNat 1442695040888963407))]) :: (112, O.var [A.ro 1 la (Row.gen fun i => A.int .u8 (Int.ofNat (b i))), A.int .i64 (IntKind.i64.wrap (k + Int.ofNat 1)), A.int IntKind.u64 sd]) :: (112, O.var [A.ro 1 la (Row.gen fun i => A.int .u8 (Int.ofNat (b i))), A.int .i64 k, A.int IntKind.u64 sd]) :: M) := by kernel_rfl
theorem sim_top {id : Nat} {o : O} (o1 o2 : O) (M : List (Nat × O)) : SimMem ((id, o) :: (id, o1) :: (id, o2) :: M) id M o := by
  refine ⟨fun j hj => ?_, ?_⟩
  · have e : Nat.beq id j = false := by
      cases h : Nat.beq id j
      · rfl
      · exact absurd (Nat.eq_of_beq_eq_true h).symm hj
    simp only [look, e]
  · have e : Nat.beq id id = true := Nat.beq_refl id
    simp only [look, e]
    exact OSims.self [o] |>.1
theorem nextS_ok (b : Nat → Nat) : CodeOK Try.prog (fun _ σ => nextS b σ) (bodyOf Try.f114) := by
  refine sumF_ok cfgX2s_ok (own := fun _ => true) (lp := fun _ => none) (un := 0) (fuel := 1000) (lp_none _) ?_
  intro az o az' o' hF
  unfold nextF at hF
  split at hF
  · rename_i x la g k sd
    simp only [Option.some.injEq, Prod.mk.injEq] at hF
    obtain ⟨hc, rfl, rfl⟩ := hF
    rw [Bool.and_eq_true, Bool.and_eq_true] at hc
    obtain ⟨hg, h0, h1⟩ := hc
    have hg := gIs_eq hg
    have h0 := of_decide_eq_true h0
    have h1 := of_decide_eq_true h1
    subst hg
    refine ⟨fun _ => rfl, fun _ => rfl, fun lo nx M => ?_⟩
    rw [round114]
    have hw : IntKind.i64.wrap (k + 1) = k + 1 := wrap_small (by omega) (by omega)
    have hw' : IntKind.i64.wrap (k + Int.ofNat 1) = k + 1 := hw
    by_cases hk : k < Int.ofNat la
    · have hv : srcV la b k sd = IntKind.i64.wrap (Int.ofNat (b k.toNat)) := by unfold srcV; rw [decide_eq_true hk]; rfl
      have hB : srcB la b k = IntKind.i64.wrap (Int.ofNat (b k.toNat)) := by unfold srcB; rw [decide_eq_true hk]; rfl
      refine condT (decide_eq_true hk) (condT (by rw [decide_eq_true h0, decide_eq_true hk]; rfl) (condT (decide_eq_true (by rw [hw]; have : k < (la : Int) := hk; show k + 1 ≤ (la : Int); omega)) ?_))
      rw [hw', hv]
      unfold srcS
      rw [hB]
      exact ⟨rfl, ALe.self _, sim_top _ _ M⟩
    · have hB : srcB la b k = Int.ofNat 0 := by unfold srcB; rw [decide_eq_false hk]; rfl
      have hv : srcV la b k sd = IntKind.i64.wrap (bandI IntKind.u64 (shrI IntKind.u64 (srcS la b k sd) (Int.ofNat 40)) (Int.ofNat 255)) := by unfold srcV; rw [decide_eq_false hk]; rfl
      refine condE (decide_eq_false hk) (condE (decide_eq_false (by rw [hw]; have : ¬ k < (la : Int) := hk; show ¬ k + 1 ≤ (la : Int); omega)) ?_)
      rw [hw', hv]
      unfold srcS
      rw [hB]
      exact ⟨rfl, ALe.self _, sim_top _ _ M⟩
  · cases hF
noncomputable def ftsSrc : List (Nat × Func) := [(94, Try.f94), (95, Try.f95), (96, Try.f96), (114, Try.f114)]
theorem ftsSrc_ok (f : Nat) (fn : Func) (h : (f, fn) ∈ ftsSrc) : Try.prog.funcs[f]? = some fn ∧ (fn.name == "runtime.NumGoroutine") = false := by
  simp only [ftsSrc, List.mem_cons, Prod.mk.injEq, List.not_mem_nil, or_false] at h
  rcases h with ⟨rfl, rfl⟩ | ⟨rfl, rfl⟩ | ⟨rfl, rfl⟩ | ⟨rfl, rfl⟩
  · exact ⟨Try.func94, by kernel_rfl⟩
  · exact ⟨Try.func95, by kernel_rfl⟩
  · exact ⟨Try.func96, by kernel_rfl⟩
  · exact ⟨Try.func114, by kernel_rfl⟩
noncomputable def fxSrc (b : Nat → Nat) : List (Nat × (St → T)) := [(114, nextS b)]
theorem fxSrc_ok (b : Nat → Nat) (g : Nat) (s : St → T) (fn : Func) (body : Code) (h1 : (g, s) ∈ fxSrc b) (h2 : (g, fn) ∈ ftsSrc) (h3 : fn.body = some body) : CodeOK Try.prog (fun _ σ => s σ) body := by
  simp only [fxSrc, List.mem_singleton, Prod.mk.injEq] at h1
  obtain ⟨rfl, rfl⟩ := h1
  simp only [ftsSrc, List.mem_cons, Prod.mk.injEq, List.not_mem_nil, or_false] at h2
  rcases h2 with ⟨h2, _⟩ | ⟨h2, _⟩ | ⟨h2, _⟩ | ⟨_, rfl⟩
  · omega
  · omega
  · omega
  · have e : bodyOf Try.f114 = body := by unfold bodyOf; rw [h3]
    rw [← e]
    exact nextS_ok b
noncomputable def cfgSrc (b : Nat → Nat) : Cfg := mkCfgX (nilTab tab) ftsSrc xts (look envX2) (fxSrc b)
theorem cfgSrc_ok (b : Nat → Nat) : CfgOK Try.prog (cfgSrc b) :=
  ⟨fun t ti h => nilTab_ok (fun t ti hm => tabOf_ok tab_eq t ti hm) t ti (look_mem h), fun f fn h => ftsSrc_ok f fn (look_mem h), fun f e h => let ⟨fn, k⟩ := xts_ok f e (look_mem h); ⟨fn, k.at_, k.name, k.body, k.next, k.run⟩, envX2_ok,
    fun g s fn body hs hf hb => fxSrc_ok b g s fn body (look_mem hs) (look_mem hf) hb, mixed⟩
end Go.Fw.E1

/-
  A wire of a few points, from bytes: the loop.
-/
namespace Go.Fw.E1
open Go.Proofs
def qAt (q : Int) : Nat → Int
  | 0 => q
  | k + 1 => qAt q k + Int.ofNat 1 + Int.ofNat 1 + Int.ofNat 1
theorem qAt_eq (q : Int) : ∀ k, qAt q k = q + 3 * (k : Int)
  | 0 => by simp [qAt]
  | k + 1 => by
    unfold qAt
    rw [qAt_eq q k]
    push_cast
    show q + 3 * (k : Int) + (1 : Int) + (1 : Int) + (1 : Int) = _
    omega
noncomputable def sdAt (la : Nat) (b : Nat → Nat) (q sd : Int) : Nat → Int
  | 0 => sd
  | k + 1 => srcS la b (qAt q k + Int.ofNat 1 + Int.ofNat 1) (srcS la b (qAt q k + Int.ofNat 1) (srcS la b (qAt q k) (sdAt la b q sd k)))
noncomputable def wq (v : Int) : Nat := fop .quo .f32 (fofInt .f32 (IntKind.i64.wrap (v.tmod (Int.ofNat 17) - Int.ofNat 8))) (can .f32 1082130432)
noncomputable def wx (la : Nat) (b : Nat → Nat) (q sd : Int) (k : Nat) : Nat := wq (srcV la b (qAt q k) (sdAt la b q sd k))
noncomputable def wy (la : Nat) (b : Nat → Nat) (q sd : Int) (k : Nat) : Nat := wq (srcV la b (qAt q k + Int.ofNat 1) (srcS la b (qAt q k) (sdAt la b q sd k)))
noncomputable def wz (la : Nat) (b : Nat → Nat) (q sd : Int) (k : Nat) : Nat := wq (srcV la b (qAt q k + Int.ofNat 1 + Int.ofNat 1) (srcS la b (qAt q k + Int.ofNat 1) (srcS la b (qAt q k) (sdAt la b q sd k))))
noncomputable def I45 (n k : Nat) : List A := [.ptr 0 0, .ptr 112 0, .ptr 208 0, .int .i64 (Int.ofNat (n - k))]
noncomputable def J45 (la : Nat) (b : Nat → Nat) (q sd : Int) (cl : Bool) (c k : Nat) : List O := [.var [.ro 1 la (.gen fun i => .int .u8 (Int.ofNat (b i))), .int .i64 (qAt q k), .int .u64 (sdAt la b q sd k)], .var [.sl 144 k, .bool cl, .flt .f32 c], .row 30 3 k (.vecs .f32 (wx la b q sd) (wy la b q sd) (wz la b q sd)), .var [.nils, .bool false, .flt .f32 0]]
theorem round45 (la k m : Nat) (b : Nat → Nat) (q sd : Int) (x y z : Nat → Nat) (cl : Bool) (c : Nat) (L : XK → List A → List (Option O) → Prop) :
    ((exec (cfgSrc b) (fun _ => true) (fun _ => none) 0 1000 (loopOf Try.f45 0) (litSt Try.f45.ntmps 1088 [2, 3, 4, 5] [112, 208, 144, 0] [.ptr 0 0, .ptr 112 0, .ptr 208 0, .int .i64 (Int.ofNat m)] [.var [.ro 1 la (.gen fun i => .int .u8 (Int.ofNat (b i))), .int .i64 q, .int .u64 sd], .var [.sl 144 k, .bool cl, .flt .f32 c], .row 30 3 k (.vecs .f32 x y z), .var [.nils, .bool false, .flt .f32 0]])).rt [2, 3, 4, 5] [112, 208, 144, 0]).Ok L =
    bif decide (Int.ofNat m > 0) then
      bif (gIs b fun i => A.int .u8 (Int.ofNat (b i))) && (decide (0 ≤ q) && decide (q ≤ 1000000)) then
        bif (gIs b fun i => A.int .u8 (Int.ofNat (b i))) && (decide (0 ≤ q + 1) && decide (q + 1 ≤ 1000000)) then
          bif (gIs b fun i => A.int .u8 (Int.ofNat (b i))) && (decide (0 ≤ q + 1 + 1) && decide (q + 1 + 1 ≤ 1000000)) then
            bif decide (k + 1 ≤ 1073741824) then
              L (XK.normal) ([A.ptr 0 0, A.ptr 112 0, A.ptr 208 0, A.int .i64 (IntKind.i64.wrap (Int.ofNat m - Int.ofNat 1))]) ([some (O.var [A.ro 1 la (Row.gen fun i => A.int .u8 (Int.ofNat (b i))), A.int .i64 (q + Int.ofNat 1 + Int.ofNat 1 + Int.ofNat 1), A.int IntKind.u64 (srcS la b (q + Int.ofNat 1 + Int.ofNat 1) (srcS la b (q + Int.ofNat 1) (srcS la b q sd)))]), some (O.var [A.sl 144 (k + 1), A.bool cl, A.flt .f32 c]),   some     (O.row 30 3 (k + 1)       (Row.vecs .f32         (fun j =>           match decide (j < k) with           | true => x j           | false => ([[wq (srcV la b q sd), wq (srcV la b (q + Int.ofNat 1) (srcS la b q sd)), wq (srcV la b (q + Int.ofNat 1 + Int.ofNat 1) (srcS la b (q + Int.ofNat 1) (srcS la b q sd)))]].getD (j - k) []).getD 0 0)         (fun j =>           match decide (j < k) with           | true => y j           | false => ([[wq (srcV la b q sd), wq (srcV la b (q + Int.ofNat 1) (srcS la b q sd)), wq (srcV la b (q + Int.ofNat 1 + Int.ofNat 1) (srcS la b (q + Int.ofNat 1) (srcS la b q sd)))]].getD (j - k) []).getD 1 0)         fun j =>         match decide (j < k) with         | true => z j         | false => ([[wq (srcV la b q sd), wq (srcV la b (q + Int.ofNat 1) (srcS la b q sd)), wq (srcV la b (q + Int.ofNat 1 + Int.ofNat 1) (srcS la b (q + Int.ofNat 1) (srcS la b q sd)))]].getD (j - k) []).getD 2 0)),   some (O.var [A.nils, A.bool false, A.flt .f32 0])])
            else
              False
          else
            False
        else
          False
      else
        False
    else
      L (XK.exit 0) ([A.ptr 0 0, A.ptr 112 0, A.ptr 208 0, A.int .i64 (Int.ofNat m)]) ([some (O.var [A.ro 1 la (Row.gen fun i => A.int .u8 (Int.ofNat (b i))), A.int .i64 q, A.int IntKind.u64 sd]), some (O.var [A.sl 144 k, A.bool cl, A.flt .f32 c]), some (O.row 30 3 k (Row.vecs .f32 x y z)), some (O.var [A.nils, A.bool false, A.flt .f32 0])]) := by kernel_rfl
noncomputable def F45 (b : Nat → Nat) : List A → List (Option O) → Option R3
  | [.ptr 0 0, .ptr 112 0, .ptr 208 0, .int .i64 n], [some (.var [.ro 1 la (.gen g), .int .i64 q, .int .u64 sd]), some (.var [.sl 144 0, .bool cl, .flt .f32 c]), some (.row 30 3 0 r), some (.var [.nils, .bool false, .flt .f32 0])] => some (.ite (gIs b g && (decide (0 ≤ n) && decide (n ≤ 1000) && decide (0 ≤ q) && decide (q ≤ 1000))) (.leaf .normal (I45 n.toNat n.toNat) (J45 la b q sd cl c n.toNat)) .fail)
  | _, _ => none
theorem src_cond {b : Nat → Nat} {q : Int} (h0 : 0 ≤ q) (h1 : q ≤ 1000000) : ((gIs b fun i => A.int .u8 (Int.ofNat (b i))) && (decide (0 ≤ q) && decide (q ≤ 1000000))) = true := by
  rw [gIs_self, decide_eq_true h0, decide_eq_true h1]; rfl
theorem loop45 (b : Nat → Nat) : CodeOK Try.prog (fun _ σ => sumAt Try.f45.ntmps 1088 [2, 3, 4, 5] [112, 208, 144, 0] (F45 b) σ) (.block 0 (.loop (loopOf Try.f45 0))) := by
  refine block_ok (own := fun _ => true) (lp := (fun _ => none)) (un := 0) (fuel := 1000) (cfgSrc_ok b) (lp_none _) fun az os R hF hok => ?_
  unfold F45 at hF
  split at hF
  · rename_i n la g q sd cl c r
    injection hF with hF
    subst hF
    have hg := hok.guard
    have hg' := hg
    simp only [Bool.and_eq_true, decide_eq_true_eq] at hg'
    obtain ⟨hgb, ⟨⟨hn0, hn⟩, hq0⟩, hq⟩ := hg'
    have hgb := gIs_eq hgb
    subst hgb
    obtain ⟨m, rfl⟩ := Int.eq_ofNat_of_zero_le hn0
    have hm : m ≤ 1000 := by omega
    refine for_fact (ids := [112, 208, 144, 0]) (fun _ => true) m (I45 m) (J45 la b q sd cl c) _ (.ret) (I45 m) (I45 m) (I45 m m) (J45 la b q sd cl c m) rfl (by unfold J45; exact ⟨rfl, rfl, ⟨30, _, rfl, .inr rfl, fun p hp => absurd hp (by omega)⟩, rfl, trivial⟩) (fun _ => rfl) (fun _ => rfl) (fun _ => ALe.self _) (fun _ => rfl) (ALe.self _) (OSims.self _) rfl (fun h => by cases h) (fun k hk L h1 h2 h3 => ?_) fun L hL => ?_
    · have hqk := qAt_eq q k
      unfold I45 J45
      rw [round45]
      by_cases hkm : k < m
      · refine condT (decide_eq_true (by show Int.ofNat (m - k) > 0; simp; omega)) (condT (src_cond (by omega) (by omega)) (condT (src_cond (by omega) (by omega)) (condT (src_cond (by omega) (by omega)) (condT (decide_eq_true (by omega)) ?_))))
        rw [wrap_pred' (by omega) (by omega)]
        have := h1 hkm rfl
        unfold I45 J45 at this
        rw [show m - k - 1 = m - (k + 1) from by omega]
        exact this _ ⟨rfl, rfl, ⟨30, _, rfl, .inr rfl, fun p hp => vec_at (app3 (u := wx la b q sd) rfl hp) (app3 (u := wy la b q sd) rfl hp) (app3 (u := wz la b q sd) rfl hp)⟩, rfl, trivial⟩
      · obtain rfl : k = m := by omega
        refine condE (decide_eq_false (by rw [Nat.sub_self]; decide)) ?_
        have := h3 rfl
        unfold I45 J45 at this
        exact this
    · exact ⟨fun _ => hL.1 hg, fun N _ h => by cases h⟩
  · cases hF
noncomputable def lp45 (b : Nat → Nat) : List (Nat × (St → T)) := [(0, sumAt Try.f45.ntmps 1088 [2, 3, 4, 5] [112, 208, 144, 0] (F45 b))]
end Go.Fw.E1

/-
  Words that bytes choose, as quarters; gaps and distances as fractions.
-/
namespace Go.Fw.E1
open Go.Proofs
def qw (j : Nat) : Nat := [3221225472, 3219128320, 3217031168, 3214934016, 3212836864, 3208642560, 3204448256, 3196059648, 0, 1048576000, 1056964608, 1061158912, 1065353216, 1067450368, 1069547520, 1071644672, 1073741824].getD j 0
set_option maxRecDepth 100000 in
theorem r8q_tab : allUpTo (fun v => Nat.beq (r8q v) (qw (v % 17))) 256 = true := by decide +kernel
theorem r8q_eq {v : Nat} (h : v < 256) : r8q v = qw (v % 17) := Nat.eq_of_beq_eq_true (allUpTo_iff.1 r8q_tab v h)
set_option maxRecDepth 100000 in
theorem qw_tab : allUpTo (fun j => isV .f32 (vof .f32 (qw j)) (((Int.ofNat j - 8 : Int) : Rat) * (1 / 4))) 17 = true := by decide +kernel
theorem qw_qt {j : Nat} (h : j < 17) : Qt (qw j) (Int.ofNat j - 8) := Val.of_vof (allUpTo_iff.1 qw_tab j h)
theorem fin_val {x : Nat} {q : Rat} (h : Val .f32 x q) : fin x = true := by
  obtain ⟨n, h, _⟩ := h
  have h2 : Fin .f32 (fop .sub .f32 x x) 0 := by
    have := Fin.sub h h
    rw [Int.sub_self, rI_0] at this
    exact this (limK_pos _)
  unfold fin
  have h0 : Fin .f32 (can .f32 0) 0 := by
    have : Rep .f32 (can .f32 0) .zero := by rw [show can .f32 0 = 0 by decide +kernel]; exact rep_of .f32 0
    exact this
  rw [Fin.order h2 h0]
  rfl
theorem zero64 : Val .f64 (can .f64 0) 0 := Val.of_vof (by decide +kernel)
end Go.Fw.E1

/-
  A wire of a few points, from bytes: the contract, and what its numbers are.
-/
namespace Go.Fw.E1
open Go.Proofs
noncomputable def sd1 (la : Nat) (b : Nat → Nat) : Int := srcS la b (Int.ofNat 0) (Int.ofNat 0)
noncomputable def sd2 (la : Nat) (b : Nat → Nat) : Int := srcS la b (Int.ofNat 0 + Int.ofNat 1) (sd1 la b)
noncomputable def sd3 (la : Nat) (b : Nat → Nat) : Int := srcS la b (Int.ofNat 0 + Int.ofNat 1 + Int.ofNat 1) (sd2 la b)
def q3 : Int := Int.ofNat 0 + Int.ofNat 1 + Int.ofNat 1 + Int.ofNat 1
noncomputable def wnI (la : Nat) (b : Nat → Nat) : Int := IntKind.i64.wrap (Int.ofNat 2 + (srcV la b (Int.ofNat 0 + Int.ofNat 1 + Int.ofNat 1) (sd2 la b)).tmod (Int.ofNat 5))
noncomputable def wn (la : Nat) (b : Nat → Nat) : Nat := (wnI la b).toNat
noncomputable def wcl (la : Nat) (b : Nat → Nat) : Bool := (srcV la b (Int.ofNat 0) (Int.ofNat 0)).tmod (Int.ofNat 2) == Int.ofNat 0
noncomputable def wcu (la : Nat) (b : Nat → Nat) : Nat := wq (srcV la b (Int.ofNat 0 + Int.ofNat 1) (sd1 la b))
noncomputable def wpx (la : Nat) (b : Nat → Nat) (k : Nat) : Nat := wx la b q3 (sd3 la b) k
noncomputable def wpy (la : Nat) (b : Nat → Nat) (k : Nat) : Nat := wy la b q3 (sd3 la b) k
noncomputable def wpz (la : Nat) (b : Nat → Nat) (k : Nat) : Nat := wz la b q3 (sd3 la b) k
theorem lp45_ok (b : Nat → Nat) : LpOK Try.prog (look (lp45 b)) (bodyOf Try.f45) := lp_loops (by kernel_rfl) (by kernel_rfl) fun p hp => by
  simp only [lp45, List.mem_cons, List.not_mem_nil, or_false] at hp
  rcases hp with rfl
  · exact loop45 b
theorem walk45 (la : Nat) (b : Nat → Nat) : autoW (cfgSrc b) (fun _ => true) 0 (look (lp45 b)) [false, false, false, false, false, false] Try.f45 [.ro 1 la (.gen fun i => .int .u8 (Int.ofNat (b i)))] =
    some ((gIs b fun i => A.int .u8 (Int.ofNat (b i))) && true && ((gIs b fun i => A.int .u8 (Int.ofNat (b i))) && true && ((gIs b fun i => A.int .u8 (Int.ofNat (b i))) && true && ((gIs b fun i => A.int .u8 (Int.ofNat (b i))) && (decide (0 ≤ wnI la b) && decide (wnI la b ≤ 1000) && true && true) && true))),
      .agg [.ro 3 (wn la b) (.vecs .f32 (wpx la b) (wpy la b) (wpz la b)), .bool (wcl la b), .flt .f32 (wcu la b)]) := by kernel_rfl
theorem bv_and_le (x : Int) : (BitVec.ofInt 64 x &&& BitVec.ofInt 64 (Int.ofNat 255)).toNat ≤ 255 := by
  rw [BitVec.toNat_and]
  exact Nat.and_le_right
theorem srcV_ex' {b : Nat → Nat} {la : Nat} {k : Int} (hb : k < Int.ofNat la → b k.toNat < 256) (sd : Int) : ∃ v, v < 256 ∧ srcV la b k sd = Int.ofNat v := by
  unfold srcV
  cases hk : decide (k < Int.ofNat la)
  · show ∃ v, v < 256 ∧ IntKind.i64.wrap (bandI .u64 (shrI .u64 (srcS la b k sd) (Int.ofNat 40)) (Int.ofNat 255)) = Int.ofNat v
    rw [bandI_eq]
    generalize shrI .u64 (srcS la b k sd) (Int.ofNat 40) = y
    have h := bv_and_le y
    unfold bandC
    refine ⟨(BitVec.ofInt 64 y &&& BitVec.ofInt 64 (Int.ofNat 255)).toNat, by omega, ?_⟩
    show IntKind.i64.wrap (IntKind.u64.wrap (Int.ofNat (BitVec.ofInt 64 y &&& BitVec.ofInt 64 (Int.ofNat 255)).toNat)) = _
    generalize (BitVec.ofInt 64 y &&& BitVec.ofInt 64 (Int.ofNat 255)).toNat = m at h
    have h1 : IntKind.u64.wrap (Int.ofNat m) = Int.ofNat m := by
      show (m : Int) % _ = (m : Int)
      apply Int.emod_eq_of_lt
      · omega
      · have : (m : Int) ≤ 255 := by omega
        exact Int.lt_of_le_of_lt this (by decide)
    rw [h1]
    exact wrap_nat (by omega)
  · have hb := hb (of_decide_eq_true hk)
    exact ⟨b k.toNat, hb, wrap_nat (by omega)⟩
theorem srcV_ex {b : Nat → Nat} (hb : ∀ i, b i < 256) (la : Nat) (k sd : Int) : ∃ v, v < 256 ∧ srcV la b k sd = Int.ofNat v := srcV_ex' (fun _ => hb _) sd
theorem wq_ex {b : Nat → Nat} (hb : ∀ i, b i < 256) (la : Nat) (k sd : Int) : ∃ j, j < 17 ∧ wq (srcV la b k sd) = qw j := by
  obtain ⟨v, hv, e⟩ := srcV_ex hb la k sd
  refine ⟨v % 17, Nat.mod_lt _ (by omega), ?_⟩
  rw [e, ← r8q_eq hv]
  unfold wq r8q
  rw [wrap_nat (by omega)]
  rfl
theorem wn_ex {b : Nat → Nat} {la : Nat} (hb : ∀ i, i < la → b i < 256) : ∃ n, 2 ≤ n ∧ n ≤ 6 ∧ wnI la b = Int.ofNat n ∧ wn la b = n := by
  obtain ⟨v, hv, e⟩ := srcV_ex' (la := la) (k := Int.ofNat 0 + Int.ofNat 1 + Int.ofNat 1) (fun h => hb 2 (by have h : (2 : Int) < (la : Int) := h; omega)) (sd2 la b)
  have h : wnI la b = Int.ofNat (2 + v % 5) := by
    unfold wnI
    rw [e]
    show IntKind.i64.wrap (Int.ofNat (2 + v % 5)) = _
    exact wrap_nat (by omega)
  exact ⟨2 + v % 5, by omega, by omega, h, by unfold wn; rw [h]; rfl⟩
theorem pure45 {la : Nat} {b : Nat → Nat} (hb : ∀ i, i < la → b i < 256) : PureCall Try.prog 45 [.ro 1 la (.gen fun i => .int .u8 (Int.ofNat (b i)))] (.agg [.ro 3 (wn la b) (.vecs .f32 (wpx la b) (wpy la b) (wpz la b)), .bool (wcl la b), .flt .f32 (wcu la b)]) := by
  obtain ⟨n, h1, h2, h3, _⟩ := wn_ex hb
  exact autoW_ok (cfgSrc_ok b) Try.func45 (by kernel_rfl) (lp45_ok b) (walk45 la b) (by
    rw [gIs_self, h3, decide_eq_true (show 0 ≤ Int.ofNat n by simp), decide_eq_true (show Int.ofNat n ≤ 1000 by simp; omega)]; rfl)
noncomputable def s45R : List A → Option (Bool × A)
  | [.ro 1 la (.gen g)] => some (allUpTo (isU8 g) la, .agg [.ro 3 (wn la (byt g)) (.vecs .f32 (wpx la (byt g)) (wpy la (byt g)) (wpz la (byt g))), .bool (wcl la (byt g)), .flt .f32 (wcu la (byt g))])
  | _ => none
theorem s45R_at : EnvAt Try.prog 45 s45R := by
  refine ⟨⟨Try.f45, Try.func45, by kernel_rfl, by kernel_rfl⟩, fun ds cc rr h hc => ?_⟩
  unfold s45R at h
  split at h
  · rename_i la g
    simp only [Option.some.injEq, Prod.mk.injEq] at h
    obtain ⟨rfl, rfl⟩ := h
    exact pure_bytes hc (pure45 fun i hi => (isU8_eq (allUpTo_iff.1 hc i hi)).2)
  · cases h
noncomputable def envR1 : List (Nat × (List A → Option (Bool × A))) := (45, s45R) :: envX2
theorem envR1_ok : EnvOK Try.prog (look envR1) := env_cons s45R_at envX2_ok
noncomputable def cfgR1 : Cfg := mkCfg tab [] xts (look envR1)
theorem cfgR1_ok : CfgOK Try.prog cfgR1 := cfg_ok tab_eq (no_fts _) xts_ok envR1_ok mixed
end Go.Fw.E1

/-
  Wires that are scaled.
-/
namespace Go.Fw.E1
open Go.Proofs
theorem auto98c (x y z a : Nat) : autoLp cfg35 (fun _ => none) Try.f98 [.agg [.flt .f32 x, .flt .f32 y, .flt .f32 z], .rop (.agg [.flt .f32 a]) 0] =
    some (true, A.agg [A.flt .f32 (fop .mul .f32 x a), A.flt .f32 (fop .mul .f32 y a), A.flt .f32 (fop .mul .f32 z a)]) := by kernel_rfl
noncomputable def s98c : List A → Option (Bool × A)
  | [.agg [.flt .f32 x, .flt .f32 y, .flt .f32 z], .rop (.agg [.flt .f32 a]) 0] => some (true, .agg [.flt .f32 (fop .mul .f32 x a), .flt .f32 (fop .mul .f32 y a), .flt .f32 (fop .mul .f32 z a)])
  | _ => none
theorem s98c_at : EnvAt Try.prog 98 s98c := of_auto cfg35_ok (lp_none _) Try.func98 (by kernel_rfl) (by kernel_rfl) fun ds cc rr h hc => by
  unfold s98c at h
  split at h
  · rename_i x y z a
    simp only [Option.some.injEq, Prod.mk.injEq] at h
    obtain ⟨rfl, rfl⟩ := h
    refine auto_fit (auto98c x y z a) ?_ ?_
    · rfl
    · rfl
  · cases h
noncomputable def env41k : List (Nat × (List A → Option (Bool × A))) := (98, s98c) :: env35
theorem env41k_ok : EnvOK Try.prog (look env41k) := (env_cons s98c_at env35_ok)
noncomputable def cfgKN : Cfg := mkCfg (nilTab tab) fts75 xts (look env41k)
theorem cfgKN_ok : CfgOK Try.prog cfgKN := cfgN_ok' tab_eq fts75_ok xts_ok env41k_ok mixed
noncomputable def scX (a : Nat) (x : Nat → Nat) (p : Nat) : Nat := fop .mul .f32 (x p) a
noncomputable def I95k (n cur a : Nat) (x y z : Nat → Nat) (cl : Bool) (k : Nat) : List A := [.fn 98 [.rop (.agg [.flt .f32 a]) 0], .ro 3 n (.vecs .f32 x y z), .int .i64 (Int.ofNat n), .int .i64 (Int.ofNat k), .ptr 176 0, .ptr 16 0, .bool false]
noncomputable def J95k (n cur a : Nat) (x y z : Nat → Nat) (cl : Bool) (k : Nat) : List O := [.var [.sl 272 k, .bool cl, .flt .f32 cur], .row 30 3 k (.vecs .f32 (scX a x) (scX a y) (scX a z)), .var [.nils, .bool false, .flt .f32 0]]
theorem round95k (n cur a : Nat) (x y z : Nat → Nat) (cl : Bool) (k : Nat) (L : XK → List A → List (Option O) → Prop) :
    ((exec cfgKN (fun _ => true) (fun _ => none) 0 1000 (loopOf Try.f85 0) (litSt Try.f85.ntmps 288 [1, 19, 20, 21, 6, 4, 5] [176, 272, 16] (I95k n cur a x y z cl k) (J95k n cur a x y z cl k))).rt [1, 19, 20, 21, 6, 4, 5] [176, 272, 16]).Ok L =
    bif decide (Int.ofNat k < Int.ofNat n) then
       bif decide (Int.ofNat k < Int.ofNat n) then
         bif decide (k + 1 ≤ 1073741824) then
           L (XK.normal) ([A.fn 98 [(A.agg [A.flt .f32 a]).rop 0], A.ro 3 n (Row.vecs .f32 x y z), A.int .i64 (Int.ofNat n), A.int .i64 (IntKind.i64.wrap (Int.ofNat k + Int.ofNat 1)), A.ptr 176 0, A.ptr 16 0, A.bool false]) ([some (O.var [A.sl 272 (k + 1), A.bool cl, A.flt .f32 cur]),   some     (O.row 30 3 (k + 1)       (Row.vecs .f32         (fun j =>           (match decide (j < k) with | true => scX a x j | false => ([[fop .mul .f32 (x k) a, fop .mul .f32 (y k) a, fop .mul .f32 (z k) a]].getD (j - k) []).getD 0 0))         (fun j =>           (match decide (j < k) with | true => scX a y j | false => ([[fop .mul .f32 (x k) a, fop .mul .f32 (y k) a, fop .mul .f32 (z k) a]].getD (j - k) []).getD 1 0))         fun j =>         (match decide (j < k) with | true => scX a z j | false => ([[fop .mul .f32 (x k) a, fop .mul .f32 (y k) a, fop .mul .f32 (z k) a]].getD (j - k) []).getD 2 0))),   some (O.var [A.nils, A.bool false, A.flt .f32 0])])
         else
           False
       else
         False
     else
       L (XK.exit 0) ([A.fn 98 [(A.agg [A.flt .f32 a]).rop 0], A.ro 3 n (Row.vecs .f32 x y z), A.int .i64 (Int.ofNat n), A.int .i64 (Int.ofNat k), A.ptr 176 0, A.ptr 16 0, A.bool false]) ([some (O.var [A.sl 272 k, A.bool cl, A.flt .f32 cur]), some (O.row 30 3 k (Row.vecs .f32 (fun p => scX a x p) (fun p => scX a y p) fun p => scX a z p)), some (O.var [A.nils, A.bool false, A.flt .f32 0])]) := by kernel_rfl
noncomputable def F95k : List A → List (Option O) → Option R3
  | [.fn 98 [.rop (.agg [.flt .f32 a]) 0], .ro 3 n (.vecs .f32 x y z), .int .i64 l, .int .i64 0, .ptr 176 0, .ptr 16 0, .bool false], [some (.var [.sl 272 0, .bool cl, .flt .f32 cur]), some (.row 30 3 0 g), some (.var [.nils, .bool false, .flt .f32 0])] => some (.ite (decide (l = Int.ofNat n) && Nat.ble n 1000) (.leaf .normal (I95k n cur a x y z cl (n)) (J95k n cur a x y z cl (n))) .fail)
  | _, _ => none
theorem loop95k : CodeOK Try.prog (fun _ σ => sumAt Try.f85.ntmps 288 [1, 19, 20, 21, 6, 4, 5] [176, 272, 16] F95k σ) (.block 0 (.loop (loopOf Try.f85 0))) := by
  refine block_ok (own := fun _ => true) (lp := (fun _ => none)) (un := 0) (fuel := 1000) cfgKN_ok (lp_none _) fun az os R hF hok => ?_
  unfold F95k at hF
  split at hF
  · rename_i a n x y z l cl cur g
    injection hF with hF
    subst hF
    have hg := hok.guard
    have hg' := hg
    simp only [Bool.and_eq_true, Nat.ble_eq, Nat.beq_eq, decide_eq_true_eq] at hg'
    obtain ⟨rfl, hn⟩ := hg'
    refine for_fact (ids := [176, 272, 16]) (fun _ => true) (n) (I95k n cur a x y z cl) (J95k n cur a x y z cl) _ (.ret) (I95k n cur a x y z cl) (I95k n cur a x y z cl) (I95k n cur a x y z cl (n)) (J95k n cur a x y z cl (n)) rfl (by unfold J95k; exact ⟨rfl, ⟨30, _, rfl, .inr rfl, fun p hp => absurd hp (by omega)⟩, rfl, trivial⟩) (fun _ => rfl) (fun _ => rfl) (fun _ => ALe.self _) (fun _ => rfl) (ALe.self _) (OSims.self _) rfl (fun h => by cases h) (fun k hk L h1 h2 h3 => ?_) fun L hL => ?_
    · rw [round95k]
      by_cases hkm : k < n
      · refine condT (lt_dec hkm) ?_
        rw [wrap_succ (by omega)]
        refine condT (lt_dec hkm) ?_
        refine condT (decide_eq_true (by omega)) ?_
        exact h1 hkm rfl _ ⟨rfl, ⟨30, _, rfl, .inr rfl, fun p hp => vec_at (app3 (u := scX a x) rfl hp) (app3 (u := scX a y) rfl hp) (app3 (u := scX a z) rfl hp)⟩, rfl, trivial⟩
      · refine condE (ge_dec (by omega)) ?_
        obtain rfl : k = n := by omega
        exact h3 rfl
    · exact ⟨fun _ => hL.1 hg, fun N _ h => by cases h⟩
  · cases hF
noncomputable def N95k : St → T := nilW 176 0 30 3 (sumAt Try.f85.ntmps 288 [1, 19, 20, 21, 6, 4, 5] [176, 272, 16] F95k)
theorem loopN95k : CodeOK Try.prog (fun _ σ => N95k σ) (.block 0 (.loop (loopOf Try.f85 0))) := nilW_ok loop95k
noncomputable def sclOk (n cur a : Nat) (x y z : Nat → Nat) : Bool := okW n cur x y z && okW n cur (scX a x) (scX a y) (scX a z)
theorem scl_ok {n cur a : Nat} {x y z : Nat → Nat} (h : sclOk n cur a x y z = true) : okW n cur x y z = true ∧ okW n cur (scX a x) (scX a y) (scX a z) = true ∧ 1 ≤ n ∧ n ≤ 1000 := by
  unfold sclOk at h
  simp only [Bool.and_eq_true] at h
  obtain ⟨h1, h2⟩ := h
  exact ⟨h1, h2, by have := okW_n h1; omega, by have := okW_n h1; omega⟩
noncomputable def lp95kT : List (Nat × (St → T)) := [(0, N95k)]
theorem lp95kT_ok : LpOK Try.prog (look lp95kT) (bodyOf Try.f85) := lp_loops (by kernel_rfl) (by kernel_rfl) fun p hp => by
  simp only [lp95kT, List.mem_cons, List.not_mem_nil, or_false] at hp
  rcases hp with rfl
  · exact loopN95k
theorem auto95kT (n cur : Nat) (x y z : Nat → Nat) (cl : Bool) (a : Nat) : autoS cfgKN (look lp95kT) false Try.f85 [.agg [.ro 3 n (.vecs .f32 x y z), .bool cl, .flt .f32 cur], .fn 98 [.rop (.agg [.flt .f32 a]) 0]] =
    some (n.ble 4611686018427387000 && (!!okW n cur x y z && (decide (Int.ofNat n = Int.ofNat n) && n.ble 1000 && (n.ble 4611686018427387000 && (!!okW n cur (scX a x) (scX a y) (scX a z) && true)))), A.tup [A.agg [A.ro 3 n (Row.vecs .f32 (fun p => scX a x p) (fun p => scX a y p) fun p => scX a z p), A.bool cl, A.flt .f32 cur], A.bool true]) := by kernel_rfl
noncomputable def s95kT : List A → Option (Bool × A)
  | [.agg [.ro 3 n (.vecs .f32 x y z), .bool cl, .flt .f32 cur], .fn 98 [.rop (.agg [.flt .f32 a]) 0]] => some (sclOk n cur a x y z, .tup [.agg [.ro 3 n (.vecs .f32 (scX a x) (scX a y) (scX a z)), .bool cl, .flt .f32 cur], .bool true])
  | _ => none
theorem s95kT_at : EnvAt Try.prog 85 s95kT := of_autoS cfgKN_ok lp95kT_ok Try.func85 (by kernel_rfl) (by kernel_rfl) fun ds cc rr h hc => by
  unfold s95kT at h
  split at h
  · rename_i n x y z cl cur a
    simp only [Option.some.injEq, Prod.mk.injEq] at h
    obtain ⟨rfl, rfl⟩ := h
    refine auto_fit (auto95kT n cur x y z cl a) ?_ ?_
    · rfl
    · obtain ⟨h1, h2, h3, h4⟩ := scl_ok hc
      rw [h1, h2, ble_of (show n ≤ 4611686018427387000 by omega), ble_of (show n ≤ 1000 by omega), decide_eq_true rfl]; rfl
  · cases h
noncomputable def env42k : List (Nat × (List A → Option (Bool × A))) := (85, s95kT) :: env41k
theorem env42k_ok : EnvOK Try.prog (look env42k) := (env_cons s95kT_at env41k_ok)
noncomputable def cfgKT : Cfg := mkCfg (nilTab tab) fts75 xts (look env42k)
theorem cfgKT_ok : CfgOK Try.prog cfgKT := cfgN_ok' tab_eq fts75_ok xts_ok env42k_ok mixed
theorem auto48k (n cur : Nat) (x y z : Nat → Nat) (cl : Bool) (a : Nat) : autoLp cfgKT (fun _ => none) Try.f48 [.agg [.ro 3 n (.vecs .f32 x y z), .bool cl, .flt .f32 cur], .flt .f32 a] =
    some (sclOk n cur a x y z && true, A.tup [A.agg [A.ro 3 n (Row.vecs .f32 (fun p => scX a x p) (fun p => scX a y p) fun p => scX a z p), A.bool cl, A.flt .f32 cur], A.bool true]) := by kernel_rfl
noncomputable def s48k : List A → Option (Bool × A)
  | [.agg [.ro 3 n (.vecs .f32 x y z), .bool cl, .flt .f32 cur], .flt .f32 a] => some (sclOk n cur a x y z, .tup [.agg [.ro 3 n (.vecs .f32 (scX a x) (scX a y) (scX a z)), .bool cl, .flt .f32 cur], .bool true])
  | _ => none
theorem s48k_at : EnvAt Try.prog 48 s48k := of_auto cfgKT_ok (lp_none _) Try.func48 (by kernel_rfl) (by kernel_rfl) fun ds cc rr h hc => by
  unfold s48k at h
  split at h
  · rename_i n x y z cl cur a
    simp only [Option.some.injEq, Prod.mk.injEq] at h
    obtain ⟨rfl, rfl⟩ := h
    refine auto_fit (auto48k n cur x y z cl a) ?_ ?_
    · rfl
    · rw [hc]; rfl
  · cases h
end Go.Fw.E1

/-
  The same numbers, vectors, wires: contracts by success. How many segments a wire has.
-/
namespace Go.Fw.E1
open Go.Proofs
theorem walk46 (n cur : Nat) (x y z : Nat → Nat) (cl : Bool) : autoW cfgR1 (fun _ => true) 0 (fun _ => none) [false] Try.f46 [.agg [.ro 3 n (.vecs .f32 x y z), .bool cl, .flt .f32 cur]] = some (n.ble 4611686018427387000 && (!!okW n cur x y z && (Nat.ble 1 n && n.ble 1073741824 && true)), .tup [.int .i64 (Int.ofNat (cnt n cl)), .bool true]) := by kernel_rfl
noncomputable def s46T : List A → Option (Bool × A)
  | [.agg [.ro 3 n (.vecs .f32 x y z), .bool cl, .flt .f32 cur]] => some (okW n cur x y z, .tup [.int .i64 (Int.ofNat (cnt n cl)), .bool true])
  | _ => none
theorem s46T_at : EnvAt Try.prog 46 s46T := by
  refine ⟨⟨Try.f46, Try.func46, by kernel_rfl, by kernel_rfl⟩, fun ds cc rr h hc => ?_⟩
  unfold s46T at h
  split at h
  · rename_i n x y z cl cur
    simp only [Option.some.injEq, Prod.mk.injEq] at h
    obtain ⟨rfl, rfl⟩ := h
    have h2 := okW_n hc
    exact autoW_ok cfgR1_ok Try.func46 (by kernel_rfl) (lp_none _) (walk46 n cur x y z cl) (by rw [hc, ble_of (show n ≤ 4611686018427387000 by omega), ble_of (show 1 ≤ n by omega), ble_of (show n ≤ 1073741824 by omega)]; rfl)
  · cases h
noncomputable def sgn (x : Nat) : Bool := decide (IntKind.i64.wrap (Int.ofNat x) < 0)
theorem walkSgn (x : Nat) : autoW cfgR1 (fun _ => true) 0 (fun _ => none) [] Try.f117 [.flt .f64 x] = some (!isNaN .f64 x && true, .bool (sgn x)) := by kernel_rfl
noncomputable def sSgn : List A → Option (Bool × A)
  | [.flt .f64 x] => some (!isNaN .f64 x, .bool (sgn x))
  | _ => none
theorem sSgn_at : EnvAt Try.prog 117 sSgn := by
  refine ⟨⟨Try.f117, Try.func117, by kernel_rfl, by kernel_rfl⟩, fun ds cc rr h hc => ?_⟩
  unfold sSgn at h
  split at h
  · rename_i x
    simp only [Option.some.injEq, Prod.mk.injEq] at h
    obtain ⟨rfl, rfl⟩ := h
    exact autoW_ok cfgR1_ok Try.func117 (by kernel_rfl) (lp_none _) (walkSgn x) (by rw [hc]; rfl)
  · cases h
noncomputable def envR2 : List (Nat × (List A → Option (Bool × A))) := (46, s46T) :: (48, s48k) :: (117, sSgn) :: envR1
theorem envR2_ok : EnvOK Try.prog (look envR2) := env_cons s46T_at (env_cons s48k_at (env_cons sSgn_at envR1_ok))
noncomputable def cfgR2 : Cfg := mkCfg tab [] xts (look envR2)
theorem cfgR2_ok : CfgOK Try.prog cfgR2 := cfg_ok tab_eq (no_fts _) xts_ok envR2_ok mixed
end Go.Fw.E1

/-
  The same wires: contracts by success.
-/
namespace Go.Fw.E1
open Go.Proofs
noncomputable def numOk (x : Nat) : Bool := (forder .f32 x x == some .eq) && !isNaN .f64 (fcvt .f32 .f64 x)
noncomputable def samO (x y : Nat) : Bool := Nat.beq x y && numOk x
theorem walk102 (x y : Nat) : autoW cfgR2 (fun _ => true) 0 (fun _ => none) [false] Try.f102 [.flt .f32 x, .flt .f32 y] = some ((!bif forder .f32 x x != some Ordering.eq then true else forder .f32 y y != some Ordering.eq) && ((!isNaN .f64 (fcvt .f32 .f64 x) || !(forder .f32 x y == some Ordering.eq) == true) && ((!isNaN .f64 (fcvt .f32 .f64 y) || !(forder .f32 x y == some Ordering.eq) == true) && true)), A.bool (bif forder .f32 x y == some Ordering.eq then sgn (fcvt .f32 .f64 x) == sgn (fcvt .f32 .f64 y) else false)) := by kernel_rfl
noncomputable def s102T : List A → Option (Bool × A)
  | [.flt .f32 x, .flt .f32 y] => some (samO x y, .bool true)
  | _ => none
theorem s102T_at : EnvAt Try.prog 102 s102T := by
  refine ⟨⟨Try.f102, Try.func102, by kernel_rfl, by kernel_rfl⟩, fun ds cc rr h hc => ?_⟩
  unfold s102T at h
  split at h
  · rename_i x y
    simp only [Option.some.injEq, Prod.mk.injEq] at h
    obtain ⟨rfl, rfl⟩ := h
    unfold samO numOk at hc
    simp only [Bool.and_eq_true] at hc
    obtain ⟨h1, h2, h3⟩ := hc
    obtain rfl := Nat.eq_of_beq_eq_true h1
    have hf : forder .f32 x x = some .eq := eq_of_beq h2
    have key := walk102 x x
    rw [hf, h3] at key
    have e : (bif (some Ordering.eq == some Ordering.eq) then sgn (fcvt .f32 .f64 x) == sgn (fcvt .f32 .f64 x) else false) = true := by
      show (sgn (fcvt .f32 .f64 x) == sgn (fcvt .f32 .f64 x)) = true
      exact beq_self_eq_true _
    rw [e] at key
    exact autoW_ok cfgR2_ok Try.func102 (by kernel_rfl) (lp_none _) key rfl
  · cases h
noncomputable def envR3 : List (Nat × (List A → Option (Bool × A))) := (102, s102T) :: envR2
theorem envR3_ok : EnvOK Try.prog (look envR3) := env_cons s102T_at envR2_ok
noncomputable def cfgR3 : Cfg := mkCfg tab [] xts (look envR3)
theorem cfgR3_ok : CfgOK Try.prog cfgR3 := cfg_ok tab_eq (no_fts _) xts_ok envR3_ok mixed
end Go.Fw.E1

/-
  The same vectors: contracts by success.
-/
namespace Go.Fw.E1
open Go.Proofs
theorem walk101 (x y z a b c : Nat) : autoW cfgR3 (fun _ => true) 0 (fun _ => none) [] Try.f101 [.agg [.flt .f32 x, .flt .f32 y, .flt .f32 z], .agg [.flt .f32 a, .flt .f32 b, .flt .f32 c]] = some (samO x a && ((samO y b || false) && ((samO z c || !true == true) && true)), .bool true) := by kernel_rfl
noncomputable def samV (x y z a b c : Nat) : Bool := samO x a && samO y b && samO z c
noncomputable def s101T : List A → Option (Bool × A)
  | [.agg [.flt .f32 x, .flt .f32 y, .flt .f32 z], .agg [.flt .f32 a, .flt .f32 b, .flt .f32 c]] => some (samV x y z a b c, .bool true)
  | _ => none
theorem s101T_at : EnvAt Try.prog 101 s101T := by
  refine ⟨⟨Try.f101, Try.func101, by kernel_rfl, by kernel_rfl⟩, fun ds cc rr h hc => ?_⟩
  unfold s101T at h
  split at h
  · rename_i x y z a b c
    simp only [Option.some.injEq, Prod.mk.injEq] at h
    obtain ⟨rfl, rfl⟩ := h
    unfold samV at hc
    simp only [Bool.and_eq_true] at hc
    exact autoW_ok cfgR3_ok Try.func101 (by kernel_rfl) (lp_none _) (walk101 x y z a b c) (by rw [hc.1.1, hc.1.2, hc.2]; rfl)
  · cases h
noncomputable def envR4 : List (Nat × (List A → Option (Bool × A))) := (101, s101T) :: envR3
theorem envR4_ok : EnvOK Try.prog (look envR4) := env_cons s101T_at envR3_ok
noncomputable def cfgR4 : Cfg := mkCfg tab [] xts (look envR4)
theorem cfgR4_ok : CfgOK Try.prog cfgR4 := cfg_ok tab_eq (no_fts _) xts_ok envR4_ok mixed
noncomputable def samVAt (x y z a b c : Nat → Nat) (k : Nat) : Bool := samV (x k) (y k) (z k) (a k) (b k) (c k)
end Go.Fw.E1

/-
  The same wires: the loop over the points, the contract by success.
-/
namespace Go.Fw.E1
open Go.Proofs
noncomputable def I100 (n : Nat) (x y z a b c : Nat → Nat) (k : Nat) : List A := [.ro 3 n (.vecs .f32 x y z), .int .i64 (Int.ofNat n), .ro 3 n (.vecs .f32 a b c), .fn 101 [], .int .i64 (Int.ofNat k), .bool false]
theorem round100 (n k : Nat) (x y z a b c : Nat → Nat) (L : XK → List A → List (Option O) → Prop) :
    ((exec cfgR4 (fun _ => true) (fun _ => none) 0 1000 (loopOf Try.f100 0) (litSt Try.f100.ntmps 144 [15, 16, 1, 2, 17, 6] [] (I100 n x y z a b c k) [])).rt [15, 16, 1, 2, 17, 6] []).Ok L =
    bif decide (Int.ofNat k < Int.ofNat n) then
      bif decide (Int.ofNat k < Int.ofNat n) then
        bif decide (Int.ofNat k < Int.ofNat n) then
          bif samVAt x y z a b c k then
            L (XK.normal) ([A.ro 3 n (Row.vecs .f32 x y z), A.int .i64 (Int.ofNat n), A.ro 3 n (Row.vecs .f32 a b c), A.fn 101 [], A.int .i64 (IntKind.i64.wrap (Int.ofNat k + Int.ofNat 1)), A.bool false]) ([])
          else
            False
        else
          False
      else
        False
    else
      L (XK.exit 0) ([A.ro 3 n (Row.vecs .f32 x y z), A.int .i64 (Int.ofNat n), A.ro 3 n (Row.vecs .f32 a b c), A.fn 101 [], A.int .i64 (Int.ofNat k), A.bool false]) ([]) := by kernel_rfl
noncomputable def F100 : List A → List (Option O) → Option R3
  | [.ro 3 n (.vecs .f32 x y z), .int .i64 l, .ro 3 m (.vecs .f32 a b c), .fn 101 [], .int .i64 0, .bool false], [] => some (.ite (Nat.beq n m && decide (l = Int.ofNat n) && Nat.ble n 1000 && allUpTo (samVAt x y z a b c) n) (.leaf .normal (I100 n x y z a b c n) []) .fail)
  | _, _ => none
theorem loop100 : CodeOK Try.prog (fun _ σ => sumAt Try.f100.ntmps 144 [15, 16, 1, 2, 17, 6] [] F100 σ) (.block 0 (.loop (loopOf Try.f100 0))) := by
  refine block_ok (own := fun _ => true) (lp := (fun _ => none)) (un := 0) (fuel := 1000) cfgR4_ok (lp_none _) fun az os R hF hok => ?_
  unfold F100 at hF
  split at hF
  · rename_i n x y z l m a b c
    injection hF with hF
    subst hF
    have hg := hok.guard
    have hg' := hg
    simp only [Bool.and_eq_true, Nat.ble_eq, Nat.beq_eq, decide_eq_true_eq] at hg'
    obtain ⟨⟨⟨rfl, rfl⟩, hn⟩, hall⟩ := hg'
    have hall := allUpTo_iff.1 hall
    refine for_fact0 (fun _ => true) n (I100 n x y z a b c) _ (.ret) (I100 n x y z a b c) (I100 n x y z a b c) (I100 n x y z a b c n) rfl (fun _ => rfl) (fun _ => ALe.self _) (fun _ => rfl) (ALe.self _) rfl (fun h => by cases h) (fun k hk L h1 h2 h3 => ?_) fun L hL => ?_
    · rw [round100]
      by_cases hkm : k < n
      · refine condT (lt_dec hkm) (condT (lt_dec hkm) (condT (lt_dec hkm) (condT (hall k hkm) ?_)))
        rw [wrap_succ (by omega)]
        exact h1 hkm rfl
      · refine condE (ge_dec (by omega)) ?_
        obtain rfl : k = n := by omega
        exact h3 rfl
    · exact ⟨fun _ => hL.1 hg, fun N _ h => by cases h⟩
  · cases hF
noncomputable def lp100 : List (Nat × (St → T)) := [(0, sumAt Try.f100.ntmps 144 [15, 16, 1, 2, 17, 6] [] F100)]
theorem lp100_ok : LpOK Try.prog (look lp100) (bodyOf Try.f100) := lp_loops (by kernel_rfl) (by kernel_rfl) fun p hp => by
  simp only [lp100, List.mem_cons, List.not_mem_nil, or_false] at hp
  rcases hp with rfl
  · exact loop100
end Go.Fw.E1
