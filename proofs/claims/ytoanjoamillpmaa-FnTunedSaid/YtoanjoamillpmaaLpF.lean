/-
  The law of loops that are tuned.
-/
import Derived.Test.YtoanjoamillpmaaLpA
import Derived.Test.YtoanjoamillpmaaLpB
import Derived.Test.YtoanjoamillpmaaLpC
import Derived.Test.YtoanjoamillpmaaLpD
import Derived.Test.YtoanjoamillpmaaLpE

namespace Go.Fw.T1
open Go.Proofs
theorem bAt_ex {la : Nat} {b : Nat → Nat} (hb : ∀ i, b i < 256) (i : Nat) (hi : i < 1000) {n : Nat} (hn : 0 < n) : ∃ v, v < n ∧ bAtI la b i n = Int.ofNat v := by
  unfold bAtI
  by_cases h : i < la
  · refine ⟨b i % n, Nat.mod_lt _ hn, ?_⟩
    rw [lt_dec h, wrap_nat (by have := hb i; omega)]
    rfl
  · refine ⟨(i * 37 + 11) % n, Nat.mod_lt _ hn, ?_⟩
    rw [ge_dec (by omega)]
    show (IntKind.i64.wrap (IntKind.i64.wrap (Int.ofNat (i * 37)) + Int.ofNat 11)).tmod (Int.ofNat n) = _
    rw [wrap_nat (x := i * 37) (by omega)]
    show (IntKind.i64.wrap (Int.ofNat (i * 37 + 11))).tmod (Int.ofNat n) = _
    rw [wrap_nat (x := i * 37 + 11) (by omega)]
    rfl
theorem u8_all {la : Nat} {b : Nat → Nat} (hb : ∀ i, b i < 256) : allUpTo (isU8 (gL b)) la = true := allUpTo_iff.2 fun i _ => by
  show (decide (0 ≤ Int.ofNat (b i)) && decide (Int.ofNat (b i) < 256)) = true
  have := hb i
  rw [decide_eq_true (show 0 ≤ Int.ofNat (b i) from Int.natCast_nonneg _), decide_eq_true (show Int.ofNat (b i) < 256 by simp; omega)]; rfl
theorem kB_all {h i j k : Nat} (hh : h < 12) (hi : i < 8) (hj : j < 8) (hk : k < 8) : kB (vWt h) (vFt i) (vFt j) (vKt k) = true := by
  have key : ∀ {a h' : Nat} (_ : allUpTo (fun h => allUpTo (fun i => allUpTo (fun j => allUpTo (fun k => kB (vWt (a + h)) (vFt i) (vFt j) (vKt k)) 8) 8) 8) 4 = true) (_ : h' < 4) (_ : h = a + h'), kB (vWt h) (vFt i) (vFt j) (vKt k) = true := fun {a h'} hA hl e => by
    have h1 := allUpTo_iff.1 hA h' hl
    have h2 := allUpTo_iff.1 h1 i hi
    have h3 := allUpTo_iff.1 h2 j hj
    have h4 := allUpTo_iff.1 h3 k hk
    rw [e]; exact h4
  by_cases h1 : h < 4
  · exact key (h' := h) kB_0 h1 (by omega)
  · by_cases h2 : h < 8
    · exact key (h' := h - 4) kB_1 (by omega) (by omega)
    · exact key (h' := h - 8) kB_2 (by omega) (by omega)
theorem law3 {la lc : Nat} {b c : Nat → Nat} (hb : ∀ i, b i < 256) (hc : ∀ i, c i < 256) : PureCall Try.prog 3 [.ro 1 la (.gen fun i => .int .u8 (Int.ofNat (b i))), .ro 1 lc (.gen fun i => .int .u8 (Int.ofNat (c i)))] (.bool true) := by
  by_cases h : la ≤ 1048576 ∧ lc ≤ 1048576
  · refine autoW_ok cfgB4_ok Try.func3 (by kernel_rfl) (lp_none _) (walk3 la lc b c) ?_
    obtain ⟨v, hv, E0⟩ := bAt_ex (la := la) hb 0 (by omega) (n := 12) (by omega)
    obtain ⟨p, hp, E1⟩ := bAt_ex (la := la) hb 1 (by omega) (n := 8) (by omega)
    obtain ⟨q, hq, E2⟩ := bAt_ex (la := lc) hc 0 (by omega) (n := 8) (by omega)
    obtain ⟨r, hr, E3⟩ := bAt_ex (la := lc) hc 1 (by omega) (n := 8) (by omega)
    rw [E0, E1, E2, E3, u8_all hb, u8_all hc]
    obtain ⟨a1, a2⟩ := band_t (allUpTo_iff.1 (allUpTo_iff.1 kAC_all v hv) p hp)
    obtain ⟨w1, w2⟩ := band_t (allUpTo_iff.1 (allUpTo_iff.1 wAC_all v hv) p hp)
    obtain ⟨t1, t2⟩ := band_t (allUpTo_iff.1 (allUpTo_iff.1 (allUpTo_iff.1 wT_all p hp) q hq) r hr)
    have ha := allUpTo_iff.1 above_all v hv
    have k := c3a_ok (rep_of .f32 _) (rep_of .f32 _) a1 w1 (c3b_ok (rep_of .f32 _) (rep_of .f32 _) (rep_of .f32 _) (rep_of .f32 _) (kB_all hv hp hq hr) t1 ha t2 (c3c_ok (rep_of .f32 _) (rep_of .f32 _) a2 w2))
    unfold C3
    rw [k, decide_eq_false (show ¬ Int.ofNat la > 1048576 by simp; omega), decide_eq_false (show ¬ Int.ofNat lc > 1048576 by simp; omega)]
    rfl
  · refine autoW_ok cfgB4_ok Try.func3 (by kernel_rfl) (lp_none _) (long3 la lc b c) ?_
    by_cases h1 : la ≤ 1048576
    · rw [decide_eq_false (show ¬ Int.ofNat la > 1048576 by simp; omega), decide_eq_true (show Int.ofNat lc > 1048576 by simp; omega)]; rfl
    · rw [decide_eq_true (show Int.ofNat la > 1048576 by simp; omega)]; rfl
end Go.Fw.T1
