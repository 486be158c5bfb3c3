/-
  Circuits joined: the reference's last loops.
-/
import Derived.Test.YtcjkbhgiaaiflaaLpB

namespace Go.Fw.C1
open Go.Proofs
noncomputable def wr2 (n m : Nat) (w : Nat → Nat) (i k : Nat) (s : Nat → Nat) (p : Nat) : Nat := bif decide (p / (n + m) = n + i ∧ n ≤ p % (n + m) ∧ p % (n + m) < n + k) then w ((p / (n + m) - n) * m + (p % (n + m) - n)) else s p
noncomputable def ot2 (n m : Nat) (w : Nat → Nat) (i : Nat) (s : Nat → Nat) (p : Nat) : Nat := bif decide (n ≤ p / (n + m) ∧ p / (n + m) < n + i ∧ n ≤ p % (n + m)) then w ((p / (n + m) - n) * m + (p % (n + m) - n)) else s p
theorem wr2_put {n m i k : Nat} {w s : Nat → Nat} (hk : k < m) (j : Nat) : (match decide (j = (n + i) * (n + m) + (n + k)) with | true => w (i * m + k) | false => wr2 n m w i k s j) = wr2 n m w i (k + 1) s j := by
  have hk' : n + k < n + m := by omega
  by_cases h : j = (n + i) * (n + m) + (n + k)
  · subst h
    rw [decide_eq_true rfl]
    unfold wr2
    rw [ix_div hk', ix_mod hk', decide_eq_true (p := n + i = n + i ∧ n ≤ n + k ∧ n + k < n + (k + 1)) ⟨rfl, by omega, by omega⟩, show n + i - n = i by omega, show n + k - n = k by omega]; rfl
  · rw [decide_eq_false h]
    have hd := Nat.div_add_mod j (n + m)
    have hne : ¬ (j / (n + m) = n + i ∧ j % (n + m) = n + k) := fun ⟨h1, h2⟩ => by
      rw [h1, h2, Nat.mul_comm] at hd
      exact h hd.symm
    unfold wr2
    by_cases h1 : j / (n + m) = n + i ∧ n ≤ j % (n + m) ∧ j % (n + m) < n + k
    · rw [decide_eq_true h1, decide_eq_true (p := j / (n + m) = n + i ∧ n ≤ j % (n + m) ∧ j % (n + m) < n + (k + 1)) ⟨h1.1, h1.2.1, by omega⟩]
    · rw [decide_eq_false h1, decide_eq_false (p := j / (n + m) = n + i ∧ n ≤ j % (n + m) ∧ j % (n + m) < n + (k + 1)) fun h2 => by
        rcases Nat.lt_or_ge (j % (n + m)) (n + k) with h3 | h3
        · exact h1 ⟨h2.1, h2.2.1, h3⟩
        · exact hne ⟨h2.1, by omega⟩]
theorem wr2_zero {n m i : Nat} {w s : Nat → Nat} (p : Nat) : s p = wr2 n m w i 0 s p := by
  unfold wr2; rw [decide_eq_false (fun h => absurd h.2.2 (by omega))]; rfl
theorem ot2_zero {n m : Nat} {w s : Nat → Nat} (p : Nat) : s p = ot2 n m w 0 s p := by
  unfold ot2; rw [decide_eq_false (fun h => absurd h.2.1 (by omega))]; rfl
theorem ot2_next {n m i : Nat} {w s : Nat → Nat} (hm : 0 < n + m) (p : Nat) : wr2 n m w i m (ot2 n m w i s) p = ot2 n m w (i + 1) s p := by
  have hb := Nat.mod_lt p hm
  unfold wr2 ot2
  by_cases h : p / (n + m) = n + i ∧ n ≤ p % (n + m) ∧ p % (n + m) < n + m
  · rw [decide_eq_true h, decide_eq_true (p := n ≤ p / (n + m) ∧ p / (n + m) < n + (i + 1) ∧ n ≤ p % (n + m)) ⟨by omega, by omega, h.2.1⟩]; rfl
  · rw [decide_eq_false h]
    by_cases h1 : n ≤ p / (n + m) ∧ p / (n + m) < n + i ∧ n ≤ p % (n + m)
    · rw [decide_eq_true h1, decide_eq_true (p := n ≤ p / (n + m) ∧ p / (n + m) < n + (i + 1) ∧ n ≤ p % (n + m)) ⟨h1.1, by omega, h1.2.2⟩]; rfl
    · rw [decide_eq_false h1, decide_eq_false (p := n ≤ p / (n + m) ∧ p / (n + m) < n + (i + 1) ∧ n ≤ p % (n + m)) fun h2 => by
        rcases Nat.lt_or_ge (p / (n + m)) (n + i) with h3 | h3
        · exact h1 ⟨h2.1, h3, h2.2.2⟩
        · exact h ⟨by omega, h2.2.2, hb⟩]; rfl
noncomputable def I78l (n gn cn m gm cm i : Nat) (r g c u v w s1 s2 s3 : Nat → Nat) (k : Nat) : List A := [.rop (.agg [.ro 1 n (.flts .f32 r), .ro 1 gn (.flts .f32 g), .ro 1 cn (.flts .f32 c)]) 0, .rop (.agg [.ro 1 m (.flts .f32 u), .ro 1 gm (.flts .f32 v), .ro 1 cm (.flts .f32 w)]) 0, .int .i64 (Int.ofNat n), .int .i64 (Int.ofNat m), .ptr 240 0, .int .i64 (Int.ofNat i), .int .i64 (Int.ofNat k), .ptr 0 0]
noncomputable def J78l (n gn cn m gm cm i : Nat) (r g c u v w s1 s2 s3 : Nat → Nat) (k : Nat) : List O := [.var [.sl 368 (n + m), .sl 464 (gn + gm), .sl 1008 ((n + m) * (n + m))], .row 41 1 (n + m) (.flts .f32 s1), .row 41 1 (gn + gm) (.flts .f32 s2), .row 41 1 ((n + m) * (n + m)) (.flts .f32 (wr2 n m w i k s3)), .var [.emp, .emp, .emp]]
theorem round78l (n gn cn m gm cm i : Nat) (r g c u v w s1 s2 s3 : Nat → Nat) (k : Nat) (L : XK → List A → List (Option O) → Prop) :
    ((exec cfgE2 (fun _ => true) (fun _ => none) 0 1000 (loopOf Try.f78 6) (litSt Try.f78.ntmps 1152 [0, 1, 5, 6, 7, 10, 11, 4] [240, 368, 464, 1008, 0] (I78l n gn cn m gm cm i r g c u v w s1 s2 s3 k) (J78l n gn cn m gm cm i r g c u v w s1 s2 s3 k))).rt [0, 1, 5, 6, 7, 10, 11, 4] [240, 368, 464, 1008, 0]).Ok L =
    bif decide (Int.ofNat k < Int.ofNat m) then
      bif decide (0 ≤ IntKind.i64.wrap (IntKind.i64.wrap (Int.ofNat i * Int.ofNat m) + Int.ofNat k)) && decide (IntKind.i64.wrap (IntKind.i64.wrap (Int.ofNat i * Int.ofNat m) + Int.ofNat k) < Int.ofNat cm) && true then
        bif decide (0 ≤ IntKind.i64.wrap (IntKind.i64.wrap (IntKind.i64.wrap (IntKind.i64.wrap (Int.ofNat n + Int.ofNat i) * IntKind.i64.wrap (Int.ofNat n + Int.ofNat m)) + Int.ofNat n) + Int.ofNat k)) && decide (IntKind.i64.wrap (IntKind.i64.wrap (IntKind.i64.wrap (IntKind.i64.wrap (Int.ofNat n + Int.ofNat i) * IntKind.i64.wrap (Int.ofNat n + Int.ofNat m)) + Int.ofNat n) + Int.ofNat k) < Int.ofNat ((n + m) * (n + m))) then
          L (XK.normal) ([(A.agg [A.ro 1 n (Row.flts FloatKind.f32 r), A.ro 1 gn (Row.flts FloatKind.f32 g), A.ro 1 cn (Row.flts FloatKind.f32 c)]).rop 0, (A.agg [A.ro 1 m (Row.flts FloatKind.f32 u), A.ro 1 gm (Row.flts FloatKind.f32 v), A.ro 1 cm (Row.flts FloatKind.f32 w)]).rop 0, A.int IntKind.i64 (Int.ofNat n), A.int IntKind.i64 (Int.ofNat m), A.ptr 240 0, A.int IntKind.i64 (Int.ofNat i), A.int IntKind.i64 (IntKind.i64.wrap (Int.ofNat k + Int.ofNat 1)), A.ptr 0 0]) ([some (O.var [A.sl 368 (n + m), A.sl 464 (gn + gm), A.sl 1008 ((n + m) * (n + m))]), some (O.row 41 1 (n + m) (Row.flts FloatKind.f32 s1)), some (O.row 41 1 (gn + gm) (Row.flts FloatKind.f32 s2)),   some     (O.row 41 1 ((n + m) * (n + m))       (Row.flts FloatKind.f32 fun j =>         match decide (j = (IntKind.i64.wrap (IntKind.i64.wrap (IntKind.i64.wrap (IntKind.i64.wrap (Int.ofNat n + Int.ofNat i) * IntKind.i64.wrap (Int.ofNat n + Int.ofNat m)) + Int.ofNat n) + Int.ofNat k)).toNat) with         | true => w (IntKind.i64.wrap (IntKind.i64.wrap (Int.ofNat i * Int.ofNat m) + Int.ofNat k)).toNat         | false => wr2 n m w i k s3 j)),   some (O.var [A.emp, A.emp, A.emp])])
        else
          False
      else
        False
    else
      L (XK.exit 6) ([(A.agg [A.ro 1 n (Row.flts FloatKind.f32 r), A.ro 1 gn (Row.flts FloatKind.f32 g), A.ro 1 cn (Row.flts FloatKind.f32 c)]).rop 0, (A.agg [A.ro 1 m (Row.flts FloatKind.f32 u), A.ro 1 gm (Row.flts FloatKind.f32 v), A.ro 1 cm (Row.flts FloatKind.f32 w)]).rop 0, A.int IntKind.i64 (Int.ofNat n), A.int IntKind.i64 (Int.ofNat m), A.ptr 240 0, A.int IntKind.i64 (Int.ofNat i), A.int IntKind.i64 (Int.ofNat k), A.ptr 0 0]) ([some (O.var [A.sl 368 (n + m), A.sl 464 (gn + gm), A.sl 1008 ((n + m) * (n + m))]), some (O.row 41 1 (n + m) (Row.flts FloatKind.f32 s1)), some (O.row 41 1 (gn + gm) (Row.flts FloatKind.f32 s2)), some (O.row 41 1 ((n + m) * (n + m)) (Row.flts FloatKind.f32 fun p => wr2 n m w i k s3 p)), some (O.var [A.emp, A.emp, A.emp])]) := by kernel_rfl
noncomputable def F78l : List A → List (Option O) → Option R3
  | [.rop (.agg [.ro 1 n (.flts .f32 r), .ro 1 gn (.flts .f32 g), .ro 1 cn (.flts .f32 c)]) 0, .rop (.agg [.ro 1 m (.flts .f32 u), .ro 1 gm (.flts .f32 v), .ro 1 cm (.flts .f32 w)]) 0, .int .i64 n1, .int .i64 m1, .ptr 240 0, .int .i64 (.ofNat i), .int .i64 0, .ptr 0 0], [some (.var [.sl 368 a1, .sl 464 a2, .sl 1008 a3]), some (.row 41 1 b1 (.flts .f32 s1)), some (.row 41 1 b2 (.flts .f32 s2)), some (.row 41 1 b3 (.flts .f32 s3)), some (.var [.emp, .emp, .emp])] => some (.ite (decide (n1 = Int.ofNat n) && decide (m1 = Int.ofNat m) && Nat.beq a1 (n + m) && Nat.beq a2 (gn + gm) && Nat.beq a3 ((n + m) * (n + m)) && Nat.beq b1 (n + m) && Nat.beq b2 (gn + gm) && Nat.beq b3 ((n + m) * (n + m)) && Nat.ble (n + m) 6 && Nat.beq cn (n * n) && Nat.beq cm (m * m) && Nat.blt i m) (.leaf .normal (I78l n gn cn m gm cm i r g c u v w s1 s2 s3 (m)) (J78l n gn cn m gm cm i r g c u v w s1 s2 s3 (m))) .fail)
  | _, _ => none
theorem loop78l : CodeOK Try.prog (fun _ σ => sumAt Try.f78.ntmps 1152 [0, 1, 5, 6, 7, 10, 11, 4] [240, 368, 464, 1008, 0] F78l σ) (.block 6 (.loop (loopOf Try.f78 6))) := by
  refine block_ok (own := fun _ => true) (lp := (fun _ => none)) (un := 0) (fuel := 1000) cfgE2_ok (lp_none _) fun az os R hF hok => ?_
  unfold F78l at hF
  split at hF
  · rename_i n r gn g cn c m u gm v cm w n1 m1 i a1 a2 a3 b1 s1 b2 s2 b3 s3
    injection hF with hF
    subst hF
    have hg := hok.guard
    have hg' := hg
    simp only [Bool.and_eq_true, Nat.ble_eq, Nat.beq_eq, decide_eq_true_eq] at hg'
    obtain ⟨⟨⟨⟨⟨⟨⟨⟨⟨⟨⟨rfl, rfl⟩, rfl⟩, rfl⟩, rfl⟩, rfl⟩, rfl⟩, rfl⟩, h6⟩, hcn⟩, hcm⟩, hi⟩ := hg'
    have hi := blt_lt' hi
    refine for_fact (ids := [240, 368, 464, 1008, 0]) (fun _ => true) (m) (I78l n gn cn m gm cm i r g c u v w s1 s2 s3) (J78l n gn cn m gm cm i r g c u v w s1 s2 s3) _ (.ret) (I78l n gn cn m gm cm i r g c u v w s1 s2 s3) (I78l n gn cn m gm cm i r g c u v w s1 s2 s3) (I78l n gn cn m gm cm i r g c u v w s1 s2 s3 (m)) (J78l n gn cn m gm cm i r g c u v w s1 s2 s3 (m)) rfl (by unfold J78l; exact ⟨rfl, ⟨41, _, rfl, .inr rfl, fun _ _ => rfl⟩, ⟨41, _, rfl, .inr rfl, fun _ _ => rfl⟩, ⟨41, _, rfl, .inr rfl, fun p hp => flt_at (wr2_zero p)⟩, rfl, trivial⟩) (fun _ => rfl) (fun _ => rfl) (fun _ => ALe.self _) (fun _ => rfl) (ALe.self _) (OSims.self _) rfl (fun h => by cases h) (fun k hk L h1 h2 h3 => ?_) fun L hL => ?_
    · rw [round78l]

      by_cases hkm : k < m
      · refine condT (lt_dec hkm) ?_
        have e0 : IntKind.i64.wrap (Int.ofNat n + Int.ofNat m) = Int.ofNat (n + m) := wrap_nat (x := n + m) (by omega)
        have e1 : IntKind.i64.wrap (Int.ofNat n + Int.ofNat i) = Int.ofNat (n + i) := wrap_nat (x := n + i) (by omega)
        have i1 : n + i < n + m := by omega
        have k1 : n + k < n + m := by omega
        have q1 : (n + i) * (n + m) ≤ 36 := Nat.le_trans (Nat.mul_le_mul (show n + i ≤ 6 by omega) h6) (by omega)
        have e2 : IntKind.i64.wrap (Int.ofNat (n + i) * Int.ofNat (n + m)) = Int.ofNat ((n + i) * (n + m)) := wrap_nat (x := (n + i) * (n + m)) (by omega)
        have e3 : IntKind.i64.wrap (Int.ofNat ((n + i) * (n + m)) + Int.ofNat n) = Int.ofNat ((n + i) * (n + m) + n) := wrap_nat (x := (n + i) * (n + m) + n) (by omega)
        have e4 : IntKind.i64.wrap (Int.ofNat ((n + i) * (n + m) + n) + Int.ofNat k) = Int.ofNat ((n + i) * (n + m) + (n + k)) := by
          rw [← Nat.add_assoc]; exact wrap_nat (x := (n + i) * (n + m) + n + k) (by omega)
        rw [e0, e1, e2, e3, e4, wrap_ix hi hkm (by omega), wrap_succ (by omega)]
        refine condT (by rw [hcm, dec0, lt_dec (ix_lt hi hkm (by omega))]; rfl) ?_
        refine condT (by rw [dec0, lt_dec (ix_lt i1 k1 h6)]; rfl) ?_
        exact h1 hkm rfl _ ⟨rfl, ⟨41, _, rfl, .inr rfl, fun _ _ => rfl⟩, ⟨41, _, rfl, .inr rfl, fun _ _ => rfl⟩, ⟨41, _, rfl, .inr rfl, fun p hp => flt_at (wr2_put hkm p)⟩, rfl, trivial⟩
      · refine condE (ge_dec (by omega)) ?_
        obtain rfl : k = m := by omega
        exact h3 rfl
    · exact ⟨fun _ => hL.1 hg, fun N _ h => by cases h⟩
  · cases hF

noncomputable def lpi78j : List (Nat × (St → T)) := [(6, sumAt Try.f78.ntmps 1152 [0, 1, 5, 6, 7, 10, 11, 4] [240, 368, 464, 1008, 0] F78l)]
theorem lpi78j_ok : LpOK Try.prog (look lpi78j) (loopOf Try.f78 4) := lp_in (lp_loops (by kernel_rfl) (by kernel_rfl) fun p hp => by
  simp only [lpi78j, List.mem_cons, List.not_mem_nil, or_false] at hp
  rcases hp with rfl
  · exact loop78l) _
noncomputable def I78j (n gn cn m gm cm : Nat) (r g c u v w s1 s2 s3 : Nat → Nat) (k : Nat) : List A := [.rop (.agg [.ro 1 n (.flts .f32 r), .ro 1 gn (.flts .f32 g), .ro 1 cn (.flts .f32 c)]) 0, .rop (.agg [.ro 1 m (.flts .f32 u), .ro 1 gm (.flts .f32 v), .ro 1 cm (.flts .f32 w)]) 0, .int .i64 (Int.ofNat n), .int .i64 (Int.ofNat m), .ptr 240 0, .int .i64 (Int.ofNat k), .ptr 0 0]
noncomputable def J78j (n gn cn m gm cm : Nat) (r g c u v w s1 s2 s3 : Nat → Nat) (k : Nat) : List O := [.var [.sl 368 (n + m), .sl 464 (gn + gm), .sl 1008 ((n + m) * (n + m))], .row 41 1 (n + m) (.flts .f32 s1), .row 41 1 (gn + gm) (.flts .f32 s2), .row 41 1 ((n + m) * (n + m)) (.flts .f32 (ot2 n m w k s3)), .var [.emp, .emp, .emp]]
theorem round78j (n gn cn m gm cm : Nat) (r g c u v w s1 s2 s3 : Nat → Nat) (k : Nat) (L : XK → List A → List (Option O) → Prop) :
    ((exec cfgE2 (fun _ => true) (look lpi78j) 0 1000 (loopOf Try.f78 4) (litSt Try.f78.ntmps 1088 [0, 1, 5, 6, 7, 10, 4] [240, 368, 464, 1008, 0] (I78j n gn cn m gm cm r g c u v w s1 s2 s3 k) (J78j n gn cn m gm cm r g c u v w s1 s2 s3 k))).rt [0, 1, 5, 6, 7, 10, 4] [240, 368, 464, 1008, 0]).Ok L =
    bif decide (Int.ofNat k < Int.ofNat m) then
      bif decide (Int.ofNat n = Int.ofNat n) && decide (Int.ofNat m = Int.ofNat m) && (n + m).beq (n + m) && (gn + gm).beq (gn + gm) && ((n + m) * (n + m)).beq ((n + m) * (n + m)) && (n + m).beq (n + m) && (gn + gm).beq (gn + gm) && ((n + m) * (n + m)).beq ((n + m) * (n + m)) && (n + m).ble 6 && cn.beq (n * n) && cm.beq (m * m) && k.blt m then
        L (XK.normal) ([(A.agg [A.ro 1 n (Row.flts FloatKind.f32 r), A.ro 1 gn (Row.flts FloatKind.f32 g), A.ro 1 cn (Row.flts FloatKind.f32 c)]).rop 0, (A.agg [A.ro 1 m (Row.flts FloatKind.f32 u), A.ro 1 gm (Row.flts FloatKind.f32 v), A.ro 1 cm (Row.flts FloatKind.f32 w)]).rop 0, A.int IntKind.i64 (Int.ofNat n), A.int IntKind.i64 (Int.ofNat m), A.ptr 240 0, A.int IntKind.i64 (IntKind.i64.wrap (Int.ofNat k + Int.ofNat 1)), A.ptr 0 0]) ([some (O.var [A.sl 368 (n + m), A.sl 464 (gn + gm), A.sl 1008 ((n + m) * (n + m))]), some (O.row 41 1 (n + m) (Row.flts FloatKind.f32 s1)), some (O.row 41 1 (gn + gm) (Row.flts FloatKind.f32 s2)), some (O.row 41 1 ((n + m) * (n + m)) (Row.flts FloatKind.f32 fun p => wr2 n m w k m (ot2 n m w k s3) p)), some (O.var [A.emp, A.emp, A.emp])])
      else
        False
    else
      L (XK.exit 4) ([(A.agg [A.ro 1 n (Row.flts FloatKind.f32 r), A.ro 1 gn (Row.flts FloatKind.f32 g), A.ro 1 cn (Row.flts FloatKind.f32 c)]).rop 0, (A.agg [A.ro 1 m (Row.flts FloatKind.f32 u), A.ro 1 gm (Row.flts FloatKind.f32 v), A.ro 1 cm (Row.flts FloatKind.f32 w)]).rop 0, A.int IntKind.i64 (Int.ofNat n), A.int IntKind.i64 (Int.ofNat m), A.ptr 240 0, A.int IntKind.i64 (Int.ofNat k), A.ptr 0 0]) ([some (O.var [A.sl 368 (n + m), A.sl 464 (gn + gm), A.sl 1008 ((n + m) * (n + m))]), some (O.row 41 1 (n + m) (Row.flts FloatKind.f32 s1)), some (O.row 41 1 (gn + gm) (Row.flts FloatKind.f32 s2)), some (O.row 41 1 ((n + m) * (n + m)) (Row.flts FloatKind.f32 fun p => ot2 n m w k s3 p)), some (O.var [A.emp, A.emp, A.emp])]) := by kernel_rfl
noncomputable def F78j : List A → List (Option O) → Option R3
  | [.rop (.agg [.ro 1 n (.flts .f32 r), .ro 1 gn (.flts .f32 g), .ro 1 cn (.flts .f32 c)]) 0, .rop (.agg [.ro 1 m (.flts .f32 u), .ro 1 gm (.flts .f32 v), .ro 1 cm (.flts .f32 w)]) 0, .int .i64 n1, .int .i64 m1, .ptr 240 0, .int .i64 0, .ptr 0 0], [some (.var [.sl 368 a1, .sl 464 a2, .sl 1008 a3]), some (.row 41 1 b1 (.flts .f32 s1)), some (.row 41 1 b2 (.flts .f32 s2)), some (.row 41 1 b3 (.flts .f32 s3)), some (.var [.emp, .emp, .emp])] => some (.ite (decide (n1 = Int.ofNat n) && decide (m1 = Int.ofNat m) && Nat.beq a1 (n + m) && Nat.beq a2 (gn + gm) && Nat.beq a3 ((n + m) * (n + m)) && Nat.beq b1 (n + m) && Nat.beq b2 (gn + gm) && Nat.beq b3 ((n + m) * (n + m)) && Nat.ble (n + m) 6 && Nat.beq cn (n * n) && Nat.beq cm (m * m)) (.leaf .normal (I78j n gn cn m gm cm r g c u v w s1 s2 s3 (m)) (J78j n gn cn m gm cm r g c u v w s1 s2 s3 (m))) .fail)
  | _, _ => none
theorem loop78j : CodeOK Try.prog (fun _ σ => sumAt Try.f78.ntmps 1088 [0, 1, 5, 6, 7, 10, 4] [240, 368, 464, 1008, 0] F78j σ) (.block 4 (.loop (loopOf Try.f78 4))) := by
  refine block_ok (own := fun _ => true) (lp := (look lpi78j)) (un := 0) (fuel := 1000) cfgE2_ok lpi78j_ok fun az os R hF hok => ?_
  unfold F78j at hF
  split at hF
  · rename_i n r gn g cn c m u gm v cm w n1 m1 a1 a2 a3 b1 s1 b2 s2 b3 s3
    injection hF with hF
    subst hF
    have hg := hok.guard
    have hg' := hg
    simp only [Bool.and_eq_true, Nat.ble_eq, Nat.beq_eq, decide_eq_true_eq] at hg'
    obtain ⟨⟨⟨⟨⟨⟨⟨⟨⟨⟨rfl, rfl⟩, rfl⟩, rfl⟩, rfl⟩, rfl⟩, rfl⟩, rfl⟩, h6⟩, hcn⟩, hcm⟩ := hg'
    refine for_fact (ids := [240, 368, 464, 1008, 0]) (fun _ => true) (m) (I78j n gn cn m gm cm r g c u v w s1 s2 s3) (J78j n gn cn m gm cm r g c u v w s1 s2 s3) _ (.ret) (I78j n gn cn m gm cm r g c u v w s1 s2 s3) (I78j n gn cn m gm cm r g c u v w s1 s2 s3) (I78j n gn cn m gm cm r g c u v w s1 s2 s3 (m)) (J78j n gn cn m gm cm r g c u v w s1 s2 s3 (m)) rfl (by unfold J78j; exact ⟨rfl, ⟨41, _, rfl, .inr rfl, fun _ _ => rfl⟩, ⟨41, _, rfl, .inr rfl, fun _ _ => rfl⟩, ⟨41, _, rfl, .inr rfl, fun p hp => flt_at (ot2_zero p)⟩, rfl, trivial⟩) (fun _ => rfl) (fun _ => rfl) (fun _ => ALe.self _) (fun _ => rfl) (ALe.self _) (OSims.self _) rfl (fun h => by cases h) (fun k hk L h1 h2 h3 => ?_) fun L hL => ?_
    · rw [round78j]

      by_cases hkm : k < m
      · refine condT (lt_dec hkm) ?_
        rw [wrap_succ (by omega)]
        refine condT (by (repeat rw [decide_eq_true rfl]); rw [Nat.beq_refl, Nat.beq_refl, Nat.beq_refl, ble_of h6, hcn, hcm, Nat.beq_refl, Nat.beq_refl, blt_t hkm]; rfl) ?_
        exact h1 hkm rfl _ ⟨rfl, ⟨41, _, rfl, .inr rfl, fun _ _ => rfl⟩, ⟨41, _, rfl, .inr rfl, fun _ _ => rfl⟩, ⟨41, _, rfl, .inr rfl, fun p hp => flt_at (ot2_next (by omega) p)⟩, rfl, trivial⟩
      · refine condE (ge_dec (by omega)) ?_
        obtain rfl : k = m := by omega
        exact h3 rfl
    · exact ⟨fun _ => hL.1 hg, fun N _ h => by cases h⟩
  · cases hF

end Go.Fw.C1

/-
  Circuits joined: the reference.
-/
namespace Go.Fw.C1
open Go.Proofs
noncomputable def joinX (n m : Nat) (c w : Nat → Nat) : Nat → Nat := ot2 n m w m (ot1 n m c n (fun _ => 0))
theorem joinX_eq {n m p : Nat} {c w : Nat → Nat} (hp : p < (n + m) * (n + m)) : joinX n m c w p = joinC n m c w p := by
  have hN : 0 < n + m := by
    rcases Nat.eq_zero_or_pos (n + m) with h | h
    · rw [h] at hp; omega
    · exact h
  have h1 : p / (n + m) < n + m := Nat.div_lt_of_lt_mul hp
  have h2 := Nat.mod_lt p hN
  have e0 : (0 : Nat) = can .f32 0 := by decide +kernel
  unfold joinX joinC ot2 ot1
  by_cases ha : p / (n + m) < n
  · rw [decide_eq_false (p := n ≤ p / (n + m) ∧ p / (n + m) < n + m ∧ n ≤ p % (n + m)) (by omega)]
    by_cases hb : p % (n + m) < n
    · rw [decide_eq_true (p := p / (n + m) < n ∧ p % (n + m) < n) ⟨ha, hb⟩, jv_lo ha hb]; rfl
    · rw [decide_eq_false (p := p / (n + m) < n ∧ p % (n + m) < n) (by omega), jv_mix (.inl ⟨ha, by omega⟩)]; exact e0
  · by_cases hb : p % (n + m) < n
    · rw [decide_eq_false (p := n ≤ p / (n + m) ∧ p / (n + m) < n + m ∧ n ≤ p % (n + m)) (by omega), decide_eq_false (p := p / (n + m) < n ∧ p % (n + m) < n) (by omega), jv_mix (.inr ⟨by omega, hb⟩)]; exact e0
    · rw [decide_eq_true (p := n ≤ p / (n + m) ∧ p / (n + m) < n + m ∧ n ≤ p % (n + m)) (by omega), jv_hi (by omega) (by omega)]; rfl
noncomputable def lp78 : List (Nat × (St → T)) := [(0, sumAt Try.f78.ntmps 1072 [0, 1, 5, 6, 7, 8, 4] [240, 368, 464, 1008, 0] F78i), (4, sumAt Try.f78.ntmps 1088 [0, 1, 5, 6, 7, 10, 4] [240, 368, 464, 1008, 0] F78j)]
theorem lp78_ok : LpOK Try.prog (look lp78) (bodyOf Try.f78) := lp_loops (by kernel_rfl) (by kernel_rfl) fun p hp => by
  simp only [lp78, List.mem_cons, List.not_mem_nil, or_false] at hp
  rcases hp with rfl | rfl
  · exact loop78i
  · exact loop78j
theorem auto78 (n gn cn m gm cm : Nat) (r g c u v w : Nat → Nat) : autoLp cfgE2 (look lp78) Try.f78 [.rop (.agg [.ro 1 n (.flts .f32 r), .ro 1 gn (.flts .f32 g), .ro 1 cn (.flts .f32 c)]) 0, .rop (.agg [.ro 1 m (.flts .f32 u), .ro 1 gm (.flts .f32 v), .ro 1 cm (.flts .f32 w)]) 0] =
    some   (decide (0 < gn) && decide (gn ≤ 1073741824) && (decide (0 < n) && decide (n ≤ 1073741824) && true) && (decide (0 < cn) && decide (cn ≤ 1073741824) && (decide (n + m ≤ 1073741824) && (decide (gn + gm ≤ 1073741824) && (decide (0 ≤ IntKind.i64.wrap (IntKind.i64.wrap (Int.ofNat n + Int.ofNat m) * IntKind.i64.wrap (Int.ofNat n + Int.ofNat m))) && decide (IntKind.i64.wrap (IntKind.i64.wrap (Int.ofNat n + Int.ofNat m) * IntKind.i64.wrap (Int.ofNat n + Int.ofNat m)) ≤ 1073741824) && (decide (Int.ofNat n = Int.ofNat n) && decide (Int.ofNat m = Int.ofNat m) && (n + m).beq (n + m) && (gn + gm).beq (gn + gm) && (IntKind.i64.wrap (IntKind.i64.wrap (Int.ofNat n + Int.ofNat m) * IntKind.i64.wrap (Int.ofNat n + Int.ofNat m))).toNat.beq ((n + m) * (n + m)) && (n + m).beq (n + m) && (gn + gm).beq (gn + gm) && (IntKind.i64.wrap (IntKind.i64.wrap (Int.ofNat n + Int.ofNat m) * IntKind.i64.wrap (Int.ofNat n + Int.ofNat m))).toNat.beq ((n + m) * (n + m)) && (n + m).ble 6 && cn.beq (n * n) && cm.beq (m * m) && (decide (Int.ofNat n = Int.ofNat n) && decide (Int.ofNat m = Int.ofNat m) && (n + m).beq (n + m) && (gn + gm).beq (gn + gm) && ((n + m) * (n + m)).beq ((n + m) * (n + m)) && (n + m).beq (n + m) && (gn + gm).beq (gn + gm) && ((n + m) * (n + m)).beq ((n + m) * (n + m)) && (n + m).ble 6 && cn.beq (n * n) && cm.beq (m * m) && true)))))),     A.agg       [A.ro 1 (n + m)           (Row.flts FloatKind.f32 fun j =>             (match decide (j < n) with | true => r j | false => u (j - n))),         A.ro 1 (gn + gm)           (Row.flts FloatKind.f32 fun j =>             (match decide (j < gn) with | true => g j | false => v (j - gn))),         A.ro 1 ((n + m) * (n + m)) (Row.flts FloatKind.f32 fun p => ot2 n m w m (ot1 n m c n fun x => 0) p)]) := by kernel_rfl
noncomputable def s78 : List A → Option (Bool × A)
  | [.rop (.agg [.ro 1 n (.flts .f32 r), .ro 1 gn (.flts .f32 g), .ro 1 cn (.flts .f32 c)]) 0, .rop (.agg [.ro 1 m (.flts .f32 u), .ro 1 gm (.flts .f32 v), .ro 1 cm (.flts .f32 w)]) 0] => some (Nat.ble 1 n && Nat.ble 1 m && Nat.beq gn n && Nat.beq gm m && Nat.beq cn (n * n) && Nat.beq cm (m * m) && Nat.ble (n + m) 6, .agg [.ro 1 (n + m) (.flts .f32 (jn n r u)), .ro 1 (gn + gm) (.flts .f32 (jn gn g v)), .ro 1 ((n + m) * (n + m)) (.flts .f32 (joinX n m c w))])
  | _ => none
theorem s78_at : EnvAt Try.prog 78 s78 := of_auto cfgE2_ok lp78_ok Try.func78 (by kernel_rfl) (by kernel_rfl) fun ds cc rr h hc => by
  unfold s78 at h
  split at h
  · rename_i n r gn g cn c m u gm v cm w
    simp only [Option.some.injEq, Prod.mk.injEq] at h
    obtain ⟨rfl, rfl⟩ := h
    refine auto_fit (auto78 n gn cn m gm cm r g c u v w) ?_ ?_
    · rfl
    · simp only [Bool.and_eq_true, Nat.ble_eq, Nat.beq_eq] at hc
      obtain ⟨⟨⟨⟨⟨⟨h1, h2⟩, h3⟩, h4⟩, h5⟩, h6⟩, h7⟩ := hc
      have hN : (n + m) * (n + m) ≤ 36 := sq_le h7
      have hnn : n * n ≤ 36 := sq_le (by omega)
      have hn0 : 0 < n * n := Nat.mul_pos (by omega) (by omega)
      have e0 : IntKind.i64.wrap (Int.ofNat n + Int.ofNat m) = Int.ofNat (n + m) := wrap_nat (x := n + m) (by omega)
      have e1 : IntKind.i64.wrap (Int.ofNat (n + m) * Int.ofNat (n + m)) = Int.ofNat ((n + m) * (n + m)) := wrap_nat (x := (n + m) * (n + m)) (by omega)
      rw [e0, e1, decide_eq_true (show 0 < gn by omega), decide_eq_true (show gn ≤ 1073741824 by omega), decide_eq_true (show 0 < n by omega), decide_eq_true (show n ≤ 1073741824 by omega), decide_eq_true (show 0 < cn by omega), decide_eq_true (show cn ≤ 1073741824 by omega), decide_eq_true (show n + m ≤ 1073741824 by omega), decide_eq_true (show gn + gm ≤ 1073741824 by omega), dec0, decide_eq_true (show Int.ofNat ((n + m) * (n + m)) ≤ 1073741824 from Int.ofNat_le.2 (show (n + m) * (n + m) ≤ 1073741824 by omega))]
      repeat rw [decide_eq_true rfl]
      rw [show (Int.ofNat ((n + m) * (n + m))).toNat = (n + m) * (n + m) from rfl, Nat.beq_refl, Nat.beq_refl, Nat.beq_refl, ble_of h7, h5, h6, Nat.beq_refl, Nat.beq_refl]; rfl
  · cases h

noncomputable def env28j : List (Nat × (List A → Option (Bool × A))) := (78, s78) :: env25
theorem env28j_ok : EnvOK Try.prog (look env28j) := (env_cons s78_at env25_ok)
noncomputable def cfg28j : Cfg := mkCfg tab [] xts (look env28j)
theorem cfg28j_ok : CfgOK Try.prog cfg28j := cfg_ok tab_eq (no_fts _) xts_ok env28j_ok mixed
theorem auto49T (n gn cn m gm cm : Nat) (r g c u v w : Nat → Nat) : autoS cfg28j (fun _ => none) false Try.f49 [.agg [.ro 1 n (.flts .f32 r), .ro 1 gn (.flts .f32 g), .ro 1 cn (.flts .f32 c)], .agg [.ro 1 m (.flts .f32 u), .ro 1 gm (.flts .f32 v), .ro 1 cm (.flts .f32 w)]] =
    some ((!bif bif !valid n gn cn r g c then true else !valid m gm cm u v w then true else decide (IntKind.i64.wrap (Int.ofNat n + Int.ofNat m) > 6)) && (Nat.ble 1 n && Nat.ble 1 m && gn.beq n && gm.beq m && cn.beq (n * n) && cm.beq (m * m) && (n + m).ble 6 && true), A.tup [A.agg [A.ro 1 (n + m) (Row.flts FloatKind.f32 fun p => jn n r u p), A.ro 1 (gn + gm) (Row.flts FloatKind.f32 fun p => jn gn g v p), A.ro 1 ((n + m) * (n + m)) (Row.flts FloatKind.f32 fun a => ot2 n m w m (ot1 n m c n fun x => 0) a)], A.bool true]) := by kernel_rfl
noncomputable def s49T : List A → Option (Bool × A)
  | [.agg [.ro 1 n (.flts .f32 r), .ro 1 gn (.flts .f32 g), .ro 1 cn (.flts .f32 c)], .agg [.ro 1 m (.flts .f32 u), .ro 1 gm (.flts .f32 v), .ro 1 cm (.flts .f32 w)]] => some (joinOk n gn cn m gm cm r g c u v w, .tup [.agg [.ro 1 (n + m) (.flts .f32 (jn n r u)), .ro 1 (gn + gm) (.flts .f32 (jn gn g v)), .ro 1 ((n + m) * (n + m)) (.flts .f32 (joinX n m c w))], .bool true])
  | _ => none
theorem s49T_at : EnvAt Try.prog 49 s49T := of_autoS cfg28j_ok (lp_none _) Try.func49 (by kernel_rfl) (by kernel_rfl) fun ds cc rr h hc => by
  unfold s49T at h
  split at h
  · rename_i n r gn g cn c m u gm v cm w
    simp only [Option.some.injEq, Prod.mk.injEq] at h
    obtain ⟨rfl, rfl⟩ := h
    refine auto_fit (auto49T n gn cn m gm cm r g c u v w) ?_ ?_
    · rfl
    · obtain ⟨ha, hb, h6⟩ := join_ok hc
      obtain ⟨a1, a2, a3, a4⟩ := valid_sizes ha
      obtain ⟨b1, b2, b3, b4⟩ := valid_sizes hb
      have e0 : IntKind.i64.wrap (Int.ofNat n + Int.ofNat m) = Int.ofNat (n + m) := wrap_nat (x := n + m) (by omega)
      rw [ha, hb, e0, decide_eq_false (p := Int.ofNat (n + m) > 6) (fun h => by have := Int.ofNat_lt.1 (show ((6 : Nat) : Int) < ((n + m : Nat) : Int) from h); omega), ble_of a1, ble_of b1, a3, b3, a4, b4, Nat.beq_refl, Nat.beq_refl, Nat.beq_refl, Nat.beq_refl, ble_of h6]; rfl
  · cases h

theorem auto49F (n gn cn m gm cm : Nat) (r g c u v w : Nat → Nat) : autoS cfg28j (fun _ => none) true Try.f49 [.agg [.ro 1 n (.flts .f32 r), .ro 1 gn (.flts .f32 g), .ro 1 cn (.flts .f32 c)], .agg [.ro 1 m (.flts .f32 u), .ro 1 gm (.flts .f32 v), .ro 1 cm (.flts .f32 w)]] =
    some ((bif bif !valid n gn cn r g c then true else !valid m gm cm u v w then true else decide (IntKind.i64.wrap (Int.ofNat n + Int.ofNat m) > 6)) && true, A.tup [A.agg [A.emp, A.emp, A.emp], A.bool false]) := by kernel_rfl
noncomputable def s49F : List A → Option (Bool × A)
  | [.agg [.ro 1 n (.flts .f32 r), .ro 1 gn (.flts .f32 g), .ro 1 cn (.flts .f32 c)], .agg [.ro 1 m (.flts .f32 u), .ro 1 gm (.flts .f32 v), .ro 1 cm (.flts .f32 w)]] => some (!joinOk n gn cn m gm cm r g c u v w, .tup [.agg [.emp, .emp, .emp], .bool false])
  | _ => none
theorem s49F_at : EnvAt Try.prog 49 s49F := of_autoS cfg28j_ok (lp_none _) Try.func49 (by kernel_rfl) (by kernel_rfl) fun ds cc rr h hc => by
  unfold s49F at h
  split at h
  · rename_i n r gn g cn c m u gm v cm w
    simp only [Option.some.injEq, Prod.mk.injEq] at h
    obtain ⟨rfl, rfl⟩ := h
    refine auto_fit (auto49F n gn cn m gm cm r g c u v w) ?_ ?_
    · first | rfl | simp only [Bool.cond_self]
    · cases ha : valid n gn cn r g c
      · rfl
      · cases hb : valid m gm cm u v w
        · rfl
        · obtain ⟨a1, a2, a3, a4⟩ := valid_sizes ha
          obtain ⟨b1, b2, b3, b4⟩ := valid_sizes hb
          have e0 : IntKind.i64.wrap (Int.ofNat n + Int.ofNat m) = Int.ofNat (n + m) := wrap_nat (x := n + m) (by omega)
          have h6 : ¬ n + m ≤ 6 := fun h => by
            unfold joinOk at hc
            rw [ha, hb, decide_eq_true h] at hc
            cases hc
          rw [e0, decide_eq_true (p := Int.ofNat (n + m) > 6) (Int.ofNat_lt.2 (show 6 < n + m by omega))]; rfl
  · cases h

end Go.Fw.C1

/-
  Circuits joined: the law's tables.
-/
namespace Go.Fw.C1
open Go.Proofs
noncomputable def lpMg (l : List Nat) : List (Nat × (St → T)) := [(0, sumD 0 (l.map fun i => (i, sumM Try.f69.ntmps [0, 1, 4, 5] i (FM i))))]
theorem lpMg_ok {l : List Nat} (h : ∀ i, i ∈ l → CodeOK Try.prog (fun _ σ => sumM Try.f69.ntmps [0, 1, 4, 5] i (FM i) σ) (.block 0 (.loop (loopOf Try.f69 0)))) : LpOK Try.prog (look (lpMg l)) (bodyOf Try.f69) := lp_loops (by kernel_rfl) (by kernel_rfl) fun p hp => by
  rw [List.mem_singleton.1 hp]
  exact sumD_ok fun p hp => by
    obtain ⟨i, hi, rfl⟩ := List.mem_map.1 hp
    exact h i hi
noncomputable def markSg (l : List Nat) (σ : St) : T := match σ.get 0 with
  | .emp => exec cfgN (fun _ => true) (fun _ => none) 1 1000 (bodyOf Try.f69) σ
  | _ => exec cfgN (fun _ => true) (look (lpMg l)) 0 1000 (bodyOf Try.f69) σ
theorem markSg_ok {l : List Nat} (hl : LpOK Try.prog (look (lpMg l)) (bodyOf Try.f69)) : CodeOK Try.prog (fun _ σ => markSg l σ) (bodyOf Try.f69) := by
  intro σ L hok
  replace hok : (markSg l σ).Ok Try.prog L := hok
  unfold markSg at hok
  split at hok
  · exact codeOK_exec cfgN_ok (lp_none _) σ L hok
  · exact codeOK_exec cfgN_ok hl σ L hok
noncomputable def fxMg (l : List Nat) : List (Nat × (St → T)) := [(69, markSg l)]
theorem fxMg_ok {l : List Nat} (hl : LpOK Try.prog (look (lpMg l)) (bodyOf Try.f69)) (g : Nat) (s : St → T) (fn : Func) (body : Code) (h1 : (g, s) ∈ fxMg l) (h2 : (g, fn) ∈ ftsM) (h3 : fn.body = some body) : CodeOK Try.prog (fun _ σ => s σ) body := by
  simp only [fxMg, List.mem_singleton, Prod.mk.injEq] at h1
  obtain ⟨rfl, rfl⟩ := h1
  simp only [ftsM, List.mem_cons, Prod.mk.injEq, List.not_mem_nil, or_false] at h2
  rcases h2 with ⟨h2, _⟩ | ⟨_, rfl⟩
  · omega
  · have e : bodyOf Try.f69 = body := by unfold bodyOf; rw [h3]
    rw [← e]
    exact markSg_ok hl
noncomputable def cfgMg (l : List Nat) (env : List (Nat × (List A → Option (Bool × A)))) : Cfg := mkCfgX tab ftsM xts (look env) (fxMg l)
theorem cfgMg_ok {l : List Nat} (hl : LpOK Try.prog (look (lpMg l)) (bodyOf Try.f69)) {env : List (Nat × (List A → Option (Bool × A)))} (h : EnvOK Try.prog (look env)) : CfgOK Try.prog (cfgMg l env) := cfgX_ok tab_eq ftsM_ok xts_ok h mixed (fxMg_ok hl)
noncomputable def envJoinT : List (Nat × (List A → Option (Bool × A))) := (49, s49T) :: (50, s50T) :: (19, auto cfg24 Try.f19) :: env24
noncomputable def envJoinF : List (Nat × (List A → Option (Bool × A))) := (49, s49F) :: (50, s50F) :: (19, auto cfg24 Try.f19) :: env24
theorem envJoinT_ok : EnvOK Try.prog (look envJoinT) := env_cons s49T_at (env_cons s50T_at (env_cons (auto_at cfg24_ok Try.func19 (by kernel_rfl) (by kernel_rfl)) env24_ok))
theorem envJoinF_ok : EnvOK Try.prog (look envJoinF) := env_cons s49F_at (env_cons s50F_at (env_cons (auto_at cfg24_ok Try.func19 (by kernel_rfl) (by kernel_rfl)) env24_ok))
noncomputable def cfgStopM (env : List (Nat × (List A → Option (Bool × A)))) : Cfg := mkCfgX tab ftsM xts (look env) [(69, fun σ => .loop .skip σ fun _ _ => .fail)]
end Go.Fw.C1

/-
  Circuits joined: the law's walks.
-/
namespace Go.Fw.C1
open Go.Proofs
theorem roundM448 (m k0 k e lo nx : Nat) (g : Nat → Nat) (M : List (Nat × O)) (L : XK → List A → List (Nat × O) → Prop) :
    ((exec cfgN (fun _ => true) (fun _ => none) 0 1000 (loopOf Try.f69 0) (stM Try.f69.ntmps lo nx [0, 1, 4, 5] (IM 448 m k0 k) 448 (.row e 1 m (.flts .f32 g)) M)).rm [0, 1, 4, 5]).Ok L =
    bif decide (Int.ofNat k < Int.ofNat m) then
      bif decide (Int.ofNat k < Int.ofNat m) then
        L (XK.normal) ([A.sl 448 m, A.int IntKind.i64 (IntKind.i64.wrap (Int.ofNat (k0 + k) + Int.ofNat 1)), A.int IntKind.i64 (Int.ofNat 0), A.int IntKind.i64 (IntKind.i64.wrap (Int.ofNat k + Int.ofNat 1))]) ((448,     O.row e 1 m       (Row.flts FloatKind.f32 fun j =>         match decide (j = (Int.ofNat k).toNat) with         | true => fofInt FloatKind.f32 (Int.ofNat (k0 + k))         | false => g j)) ::   (448, O.row e 1 m (Row.flts FloatKind.f32 g)) :: M)
      else
        False
    else
      L (XK.exit 0) ([A.sl 448 m, A.int IntKind.i64 (Int.ofNat (k0 + k)), A.int IntKind.i64 (Int.ofNat 0), A.int IntKind.i64 (Int.ofNat k)]) ((448, O.row e 1 m (Row.flts FloatKind.f32 g)) :: M) := by kernel_rfl
theorem loopM448 : CodeOK Try.prog (fun _ σ => sumM Try.f69.ntmps [0, 1, 4, 5] 448 (FM 448) σ) (.block 0 (.loop (loopOf Try.f69 0))) :=
  sumM_ok (own := fun _ => true) (lp := fun _ => none) (un := 0) (fuel := 1000) cfgN_ok (lp_none _) (markH 448 fun m k0 k e lo nx g M L => roundM448 m k0 k e lo nx g M L)

theorem roundM449 (m k0 k e lo nx : Nat) (g : Nat → Nat) (M : List (Nat × O)) (L : XK → List A → List (Nat × O) → Prop) :
    ((exec cfgN (fun _ => true) (fun _ => none) 0 1000 (loopOf Try.f69 0) (stM Try.f69.ntmps lo nx [0, 1, 4, 5] (IM 449 m k0 k) 449 (.row e 1 m (.flts .f32 g)) M)).rm [0, 1, 4, 5]).Ok L =
    bif decide (Int.ofNat k < Int.ofNat m) then
      bif decide (Int.ofNat k < Int.ofNat m) then
        L (XK.normal) ([A.sl 449 m, A.int IntKind.i64 (IntKind.i64.wrap (Int.ofNat (k0 + k) + Int.ofNat 1)), A.int IntKind.i64 (Int.ofNat 0), A.int IntKind.i64 (IntKind.i64.wrap (Int.ofNat k + Int.ofNat 1))]) ((449,     O.row e 1 m       (Row.flts FloatKind.f32 fun j =>         match decide (j = (Int.ofNat k).toNat) with         | true => fofInt FloatKind.f32 (Int.ofNat (k0 + k))         | false => g j)) ::   (449, O.row e 1 m (Row.flts FloatKind.f32 g)) :: M)
      else
        False
    else
      L (XK.exit 0) ([A.sl 449 m, A.int IntKind.i64 (Int.ofNat (k0 + k)), A.int IntKind.i64 (Int.ofNat 0), A.int IntKind.i64 (Int.ofNat k)]) ((449, O.row e 1 m (Row.flts FloatKind.f32 g)) :: M) := by kernel_rfl
theorem loopM449 : CodeOK Try.prog (fun _ σ => sumM Try.f69.ntmps [0, 1, 4, 5] 449 (FM 449) σ) (.block 0 (.loop (loopOf Try.f69 0))) :=
  sumM_ok (own := fun _ => true) (lp := fun _ => none) (un := 0) (fuel := 1000) cfgN_ok (lp_none _) (markH 449 fun m k0 k e lo nx g M L => roundM449 m k0 k e lo nx g M L)

theorem roundM450 (m k0 k e lo nx : Nat) (g : Nat → Nat) (M : List (Nat × O)) (L : XK → List A → List (Nat × O) → Prop) :
    ((exec cfgN (fun _ => true) (fun _ => none) 0 1000 (loopOf Try.f69 0) (stM Try.f69.ntmps lo nx [0, 1, 4, 5] (IM 450 m k0 k) 450 (.row e 1 m (.flts .f32 g)) M)).rm [0, 1, 4, 5]).Ok L =
    bif decide (Int.ofNat k < Int.ofNat m) then
      bif decide (Int.ofNat k < Int.ofNat m) then
        L (XK.normal) ([A.sl 450 m, A.int IntKind.i64 (IntKind.i64.wrap (Int.ofNat (k0 + k) + Int.ofNat 1)), A.int IntKind.i64 (Int.ofNat 0), A.int IntKind.i64 (IntKind.i64.wrap (Int.ofNat k + Int.ofNat 1))]) ((450,     O.row e 1 m       (Row.flts FloatKind.f32 fun j =>         match decide (j = (Int.ofNat k).toNat) with         | true => fofInt FloatKind.f32 (Int.ofNat (k0 + k))         | false => g j)) ::   (450, O.row e 1 m (Row.flts FloatKind.f32 g)) :: M)
      else
        False
    else
      L (XK.exit 0) ([A.sl 450 m, A.int IntKind.i64 (Int.ofNat (k0 + k)), A.int IntKind.i64 (Int.ofNat 0), A.int IntKind.i64 (Int.ofNat k)]) ((450, O.row e 1 m (Row.flts FloatKind.f32 g)) :: M) := by kernel_rfl
theorem loopM450 : CodeOK Try.prog (fun _ σ => sumM Try.f69.ntmps [0, 1, 4, 5] 450 (FM 450) σ) (.block 0 (.loop (loopOf Try.f69 0))) :=
  sumM_ok (own := fun _ => true) (lp := fun _ => none) (un := 0) (fuel := 1000) cfgN_ok (lp_none _) (markH 450 fun m k0 k e lo nx g M L => roundM450 m k0 k e lo nx g M L)

theorem roundM512 (m k0 k e lo nx : Nat) (g : Nat → Nat) (M : List (Nat × O)) (L : XK → List A → List (Nat × O) → Prop) :
    ((exec cfgN (fun _ => true) (fun _ => none) 0 1000 (loopOf Try.f69 0) (stM Try.f69.ntmps lo nx [0, 1, 4, 5] (IM 512 m k0 k) 512 (.row e 1 m (.flts .f32 g)) M)).rm [0, 1, 4, 5]).Ok L =
    bif decide (Int.ofNat k < Int.ofNat m) then
      bif decide (Int.ofNat k < Int.ofNat m) then
        L (XK.normal) ([A.sl 512 m, A.int IntKind.i64 (IntKind.i64.wrap (Int.ofNat (k0 + k) + Int.ofNat 1)), A.int IntKind.i64 (Int.ofNat 0), A.int IntKind.i64 (IntKind.i64.wrap (Int.ofNat k + Int.ofNat 1))]) ((512,     O.row e 1 m       (Row.flts FloatKind.f32 fun j =>         match decide (j = (Int.ofNat k).toNat) with         | true => fofInt FloatKind.f32 (Int.ofNat (k0 + k))         | false => g j)) ::   (512, O.row e 1 m (Row.flts FloatKind.f32 g)) :: M)
      else
        False
    else
      L (XK.exit 0) ([A.sl 512 m, A.int IntKind.i64 (Int.ofNat (k0 + k)), A.int IntKind.i64 (Int.ofNat 0), A.int IntKind.i64 (Int.ofNat k)]) ((512, O.row e 1 m (Row.flts FloatKind.f32 g)) :: M) := by kernel_rfl
theorem loopM512 : CodeOK Try.prog (fun _ σ => sumM Try.f69.ntmps [0, 1, 4, 5] 512 (FM 512) σ) (.block 0 (.loop (loopOf Try.f69 0))) :=
  sumM_ok (own := fun _ => true) (lp := fun _ => none) (un := 0) (fuel := 1000) cfgN_ok (lp_none _) (markH 512 fun m k0 k e lo nx g M L => roundM512 m k0 k e lo nx g M L)

theorem roundM513 (m k0 k e lo nx : Nat) (g : Nat → Nat) (M : List (Nat × O)) (L : XK → List A → List (Nat × O) → Prop) :
    ((exec cfgN (fun _ => true) (fun _ => none) 0 1000 (loopOf Try.f69 0) (stM Try.f69.ntmps lo nx [0, 1, 4, 5] (IM 513 m k0 k) 513 (.row e 1 m (.flts .f32 g)) M)).rm [0, 1, 4, 5]).Ok L =
    bif decide (Int.ofNat k < Int.ofNat m) then
      bif decide (Int.ofNat k < Int.ofNat m) then
        L (XK.normal) ([A.sl 513 m, A.int IntKind.i64 (IntKind.i64.wrap (Int.ofNat (k0 + k) + Int.ofNat 1)), A.int IntKind.i64 (Int.ofNat 0), A.int IntKind.i64 (IntKind.i64.wrap (Int.ofNat k + Int.ofNat 1))]) ((513,     O.row e 1 m       (Row.flts FloatKind.f32 fun j =>         match decide (j = (Int.ofNat k).toNat) with         | true => fofInt FloatKind.f32 (Int.ofNat (k0 + k))         | false => g j)) ::   (513, O.row e 1 m (Row.flts FloatKind.f32 g)) :: M)
      else
        False
    else
      L (XK.exit 0) ([A.sl 513 m, A.int IntKind.i64 (Int.ofNat (k0 + k)), A.int IntKind.i64 (Int.ofNat 0), A.int IntKind.i64 (Int.ofNat k)]) ((513, O.row e 1 m (Row.flts FloatKind.f32 g)) :: M) := by kernel_rfl
theorem loopM513 : CodeOK Try.prog (fun _ σ => sumM Try.f69.ntmps [0, 1, 4, 5] 513 (FM 513) σ) (.block 0 (.loop (loopOf Try.f69 0))) :=
  sumM_ok (own := fun _ => true) (lp := fun _ => none) (un := 0) (fuel := 1000) cfgN_ok (lp_none _) (markH 513 fun m k0 k e lo nx g M L => roundM513 m k0 k e lo nx g M L)

theorem roundM514 (m k0 k e lo nx : Nat) (g : Nat → Nat) (M : List (Nat × O)) (L : XK → List A → List (Nat × O) → Prop) :
    ((exec cfgN (fun _ => true) (fun _ => none) 0 1000 (loopOf Try.f69 0) (stM Try.f69.ntmps lo nx [0, 1, 4, 5] (IM 514 m k0 k) 514 (.row e 1 m (.flts .f32 g)) M)).rm [0, 1, 4, 5]).Ok L =
    bif decide (Int.ofNat k < Int.ofNat m) then
      bif decide (Int.ofNat k < Int.ofNat m) then
        L (XK.normal) ([A.sl 514 m, A.int IntKind.i64 (IntKind.i64.wrap (Int.ofNat (k0 + k) + Int.ofNat 1)), A.int IntKind.i64 (Int.ofNat 0), A.int IntKind.i64 (IntKind.i64.wrap (Int.ofNat k + Int.ofNat 1))]) ((514,     O.row e 1 m       (Row.flts FloatKind.f32 fun j =>         match decide (j = (Int.ofNat k).toNat) with         | true => fofInt FloatKind.f32 (Int.ofNat (k0 + k))         | false => g j)) ::   (514, O.row e 1 m (Row.flts FloatKind.f32 g)) :: M)
      else
        False
    else
      L (XK.exit 0) ([A.sl 514 m, A.int IntKind.i64 (Int.ofNat (k0 + k)), A.int IntKind.i64 (Int.ofNat 0), A.int IntKind.i64 (Int.ofNat k)]) ((514, O.row e 1 m (Row.flts FloatKind.f32 g)) :: M) := by kernel_rfl
theorem loopM514 : CodeOK Try.prog (fun _ σ => sumM Try.f69.ntmps [0, 1, 4, 5] 514 (FM 514) σ) (.block 0 (.loop (loopOf Try.f69 0))) :=
  sumM_ok (own := fun _ => true) (lp := fun _ => none) (un := 0) (fuel := 1000) cfgN_ok (lp_none _) (markH 514 fun m k0 k e lo nx g M L => roundM514 m k0 k e lo nx g M L)

theorem roundM592 (m k0 k e lo nx : Nat) (g : Nat → Nat) (M : List (Nat × O)) (L : XK → List A → List (Nat × O) → Prop) :
    ((exec cfgN (fun _ => true) (fun _ => none) 0 1000 (loopOf Try.f69 0) (stM Try.f69.ntmps lo nx [0, 1, 4, 5] (IM 592 m k0 k) 592 (.row e 1 m (.flts .f32 g)) M)).rm [0, 1, 4, 5]).Ok L =
    bif decide (Int.ofNat k < Int.ofNat m) then
      bif decide (Int.ofNat k < Int.ofNat m) then
        L (XK.normal) ([A.sl 592 m, A.int IntKind.i64 (IntKind.i64.wrap (Int.ofNat (k0 + k) + Int.ofNat 1)), A.int IntKind.i64 (Int.ofNat 0), A.int IntKind.i64 (IntKind.i64.wrap (Int.ofNat k + Int.ofNat 1))]) ((592,     O.row e 1 m       (Row.flts FloatKind.f32 fun j =>         match decide (j = (Int.ofNat k).toNat) with         | true => fofInt FloatKind.f32 (Int.ofNat (k0 + k))         | false => g j)) ::   (592, O.row e 1 m (Row.flts FloatKind.f32 g)) :: M)
      else
        False
    else
      L (XK.exit 0) ([A.sl 592 m, A.int IntKind.i64 (Int.ofNat (k0 + k)), A.int IntKind.i64 (Int.ofNat 0), A.int IntKind.i64 (Int.ofNat k)]) ((592, O.row e 1 m (Row.flts FloatKind.f32 g)) :: M) := by kernel_rfl
theorem loopM592 : CodeOK Try.prog (fun _ σ => sumM Try.f69.ntmps [0, 1, 4, 5] 592 (FM 592) σ) (.block 0 (.loop (loopOf Try.f69 0))) :=
  sumM_ok (own := fun _ => true) (lp := fun _ => none) (un := 0) (fuel := 1000) cfgN_ok (lp_none _) (markH 592 fun m k0 k e lo nx g M L => roundM592 m k0 k e lo nx g M L)

theorem roundM593 (m k0 k e lo nx : Nat) (g : Nat → Nat) (M : List (Nat × O)) (L : XK → List A → List (Nat × O) → Prop) :
    ((exec cfgN (fun _ => true) (fun _ => none) 0 1000 (loopOf Try.f69 0) (stM Try.f69.ntmps lo nx [0, 1, 4, 5] (IM 593 m k0 k) 593 (.row e 1 m (.flts .f32 g)) M)).rm [0, 1, 4, 5]).Ok L =
    bif decide (Int.ofNat k < Int.ofNat m) then
      bif decide (Int.ofNat k < Int.ofNat m) then
        L (XK.normal) ([A.sl 593 m, A.int IntKind.i64 (IntKind.i64.wrap (Int.ofNat (k0 + k) + Int.ofNat 1)), A.int IntKind.i64 (Int.ofNat 0), A.int IntKind.i64 (IntKind.i64.wrap (Int.ofNat k + Int.ofNat 1))]) ((593,     O.row e 1 m       (Row.flts FloatKind.f32 fun j =>         match decide (j = (Int.ofNat k).toNat) with         | true => fofInt FloatKind.f32 (Int.ofNat (k0 + k))         | false => g j)) ::   (593, O.row e 1 m (Row.flts FloatKind.f32 g)) :: M)
      else
        False
    else
      L (XK.exit 0) ([A.sl 593 m, A.int IntKind.i64 (Int.ofNat (k0 + k)), A.int IntKind.i64 (Int.ofNat 0), A.int IntKind.i64 (Int.ofNat k)]) ((593, O.row e 1 m (Row.flts FloatKind.f32 g)) :: M) := by kernel_rfl
theorem loopM593 : CodeOK Try.prog (fun _ σ => sumM Try.f69.ntmps [0, 1, 4, 5] 593 (FM 593) σ) (.block 0 (.loop (loopOf Try.f69 0))) :=
  sumM_ok (own := fun _ => true) (lp := fun _ => none) (un := 0) (fuel := 1000) cfgN_ok (lp_none _) (markH 593 fun m k0 k e lo nx g M L => roundM593 m k0 k e lo nx g M L)

theorem roundM594 (m k0 k e lo nx : Nat) (g : Nat → Nat) (M : List (Nat × O)) (L : XK → List A → List (Nat × O) → Prop) :
    ((exec cfgN (fun _ => true) (fun _ => none) 0 1000 (loopOf Try.f69 0) (stM Try.f69.ntmps lo nx [0, 1, 4, 5] (IM 594 m k0 k) 594 (.row e 1 m (.flts .f32 g)) M)).rm [0, 1, 4, 5]).Ok L =
    bif decide (Int.ofNat k < Int.ofNat m) then
      bif decide (Int.ofNat k < Int.ofNat m) then
        L (XK.normal) ([A.sl 594 m, A.int IntKind.i64 (IntKind.i64.wrap (Int.ofNat (k0 + k) + Int.ofNat 1)), A.int IntKind.i64 (Int.ofNat 0), A.int IntKind.i64 (IntKind.i64.wrap (Int.ofNat k + Int.ofNat 1))]) ((594,     O.row e 1 m       (Row.flts FloatKind.f32 fun j =>         match decide (j = (Int.ofNat k).toNat) with         | true => fofInt FloatKind.f32 (Int.ofNat (k0 + k))         | false => g j)) ::   (594, O.row e 1 m (Row.flts FloatKind.f32 g)) :: M)
      else
        False
    else
      L (XK.exit 0) ([A.sl 594 m, A.int IntKind.i64 (Int.ofNat (k0 + k)), A.int IntKind.i64 (Int.ofNat 0), A.int IntKind.i64 (Int.ofNat k)]) ((594, O.row e 1 m (Row.flts FloatKind.f32 g)) :: M) := by kernel_rfl
theorem loopM594 : CodeOK Try.prog (fun _ σ => sumM Try.f69.ntmps [0, 1, 4, 5] 594 (FM 594) σ) (.block 0 (.loop (loopOf Try.f69 0))) :=
  sumM_ok (own := fun _ => true) (lp := fun _ => none) (un := 0) (fuel := 1000) cfgN_ok (lp_none _) (markH 594 fun m k0 k e lo nx g M L => roundM594 m k0 k e lo nx g M L)

noncomputable def idsJ : List Nat := [448, 449, 450, 512, 513, 514, 592, 593, 594]
theorem idsJ_ok : LpOK Try.prog (look (lpMg idsJ)) (bodyOf Try.f69) := lpMg_ok fun i hi => by
  simp only [idsJ, List.mem_cons, List.not_mem_nil, or_false] at hi
  rcases hi with rfl | rfl | rfl | rfl | rfl | rfl | rfl | rfl | rfl
  · exact loopM448
  · exact loopM449
  · exact loopM450
  · exact loopM512
  · exact loopM513
  · exact loopM514
  · exact loopM592
  · exact loopM593
  · exact loopM594
theorem joinT (n gn cn m gm cm : Nat) (r g c u v w : Nat → Nat) : autoLp (cfgMg idsJ envJoinT) (fun _ => none) Try.f14 [.agg [.ro 1 n (.flts .f32 r), .ro 1 gn (.flts .f32 g), .ro 1 cn (.flts .f32 c)], .agg [.ro 1 m (.flts .f32 u), .ro 1 gm (.flts .f32 v), .ro 1 cm (.flts .f32 w)]] =
    some (bif decide (szC n gn cn 1048576 < 0) then true else bif decide (szC m gm cm (szC n gn cn 1048576) < 0) then true else joinOk n gn cn m gm cm r g c u v w && (m.ble 1073741824 && (gm.ble 1073741824 && (cm.ble 1073741824 && true)) && (n.ble 1073741824 && (gn.ble 1073741824 && (cn.ble 1073741824 && true)) && true)) && (n.ble 1073741824 && (gn.ble 1073741824 && (cn.ble 1073741824 && true)) && (m.ble 1073741824 && (gm.ble 1073741824 && (cm.ble 1073741824 && true)) && (joinOk n gn cn m gm cm r g c u v w && (((n + m).ble 4611686018427387904 && bif !eqL (n + m) (n + m) (jn n r u) (jn n r u) then true else (gn + gm).ble 4611686018427387904 && bif !eqL (gn + gm) (gn + gm) (jn gn g v) (jn gn g v) then true else ((n + m) * (n + m)).ble 4611686018427387904 && bif !eqL ((n + m) * (n + m)) ((n + m) * (n + m)) (joinC n m c w) (joinX n m c w) then true else true) && bif bif !bif !eqL (n + m) (n + m) (jn n r u) (jn n r u) then false else bif !eqL (gn + gm) (gn + gm) (jn gn g v) (jn gn g v) then false else bif !eqL ((n + m) * (n + m)) ((n + m) * (n + m)) (joinC n m c w) (joinX n m c w) then false else true then true else false then true else n.ble 1073741824 && (gn.ble 1073741824 && (cn.ble 1073741824 && true)) && true && ((n.ble 4611686018427387904 && bif !eqL n n r r then true else gn.ble 4611686018427387904 && bif !eqL gn gn g g then true else cn.ble 4611686018427387904 && bif !eqL cn cn c c then true else true) && bif !bif !eqL n n r r then false else bif !eqL gn gn g g then false else bif !eqL cn cn c c then false else true then true else m.ble 1073741824 && (gm.ble 1073741824 && (cm.ble 1073741824 && true)) && true && ((m.ble 4611686018427387904 && bif !eqL m m u u then true else gm.ble 4611686018427387904 && bif !eqL gm gm v v then true else cm.ble 4611686018427387904 && bif !eqL cm cm w w then true else true) && bif !bif !eqL m m u u then false else bif !eqL gm gm v v then false else bif !eqL cm cm w w then false else true then true else n.beq n && n.ble 1048577 && true && (gn.beq gn && gn.ble 1048577 && (1 + n).ble 1000000000 && (cn.beq cn && cn.ble 1048577 && (1 + n + gn).ble 1000000000 && (m.beq m && m.ble 1048577 && (1 + n + gn + cn).ble 1000000000 && (gm.beq gm && gm.ble 1048577 && (1 + n + gn + cn + m).ble 1000000000 && (cm.beq cm && cm.ble 1048577 && (1 + n + gn + cn + m + gm).ble 1000000000 && ((((n + m).ble 4611686018427387904 && bif !eqL (n + m) (n + m) (jn n r u) (jn n r u) then true else (gn + gm).ble 4611686018427387904 && bif !eqL (gn + gm) (gn + gm) (jn gn g v) (jn gn g v) then true else ((n + m) * (n + m)).ble 4611686018427387904 && bif !eqL ((n + m) * (n + m)) ((n + m) * (n + m)) (joinC n m c w) (joinX n m c w) then true else true) || false) && bif bif !bif !eqL (n + m) (n + m) (jn n r u) (jn n r u) then false else bif !eqL (gn + gm) (gn + gm) (jn gn g v) (jn gn g v) then false else bif !eqL ((n + m) * (n + m)) ((n + m) * (n + m)) (joinC n m c w) (joinX n m c w) then false else true then true else false then true else (n + m).beq (n + m) && (n + m).ble 1048577 && true && ((gn + gm).beq (gn + gm) && (gn + gm).ble 1048577 && (1 + (n + m)).ble 1000000000 && (((n + m) * (n + m)).beq ((n + m) * (n + m)) && ((n + m) * (n + m)).ble 1048577 && (1 + (n + m) + (gn + gm)).ble 1000000000 && ((n + m).ble 1048577 && true && allUpTo (fun k => !heldAt (markF 1) 1 k) (n + m) && ((gn + gm).ble 1048577 && (1 + (n + m)).ble 1000000000 && allUpTo (fun k => !heldAt (markF (1 + (n + m))) (1 + (n + m)) k) (gn + gm)) && (((n + m) * (n + m)).ble 1048577 && (1 + (n + m) + (gn + gm)).ble 1000000000 && allUpTo (fun k => !heldAt (markF (1 + (n + m) + (gn + gm))) (1 + (n + m) + (gn + gm)) k) ((n + m) * (n + m))) && bif Int.ofNat (1 + (n + m) + (gn + gm) + (n + m) * (n + m)) != Int.ofNat (1 + (n + m) + (gn + gm) + (n + m) * (n + m)) then true else joinOk n gn cn m gm cm r g c u v w && (m.ble 1073741824 && (gm.ble 1073741824 && (cm.ble 1073741824 && true)) && (n.ble 1073741824 && (gn.ble 1073741824 && (cn.ble 1073741824 && true)) && true)) && (((n + m).ble 4611686018427387904 && bif !eqL (n + m) (n + m) (jn n r u) (jn n r u) then true else (gn + gm).ble 4611686018427387904 && bif !eqL (gn + gm) (gn + gm) (jn gn g v) (jn gn g v) then true else ((n + m) * (n + m)).ble 4611686018427387904 && bif !eqL ((n + m) * (n + m)) ((n + m) * (n + m)) (joinC n m c w) (joinX n m c w) then true else true) && bif bif !bif !eqL (n + m) (n + m) (jn n r u) (jn n r u) then false else bif !eqL (gn + gm) (gn + gm) (jn gn g v) (jn gn g v) then false else bif !eqL ((n + m) * (n + m)) ((n + m) * (n + m)) (joinC n m c w) (joinX n m c w) then false else true then true else false then true else (n + m).ble 1048577 && true && allUpTo (fun k => !heldAt (markF 1) 1 k) (n + m) && ((gn + gm).ble 1048577 && (1 + (n + m)).ble 1000000000 && allUpTo (fun k => !heldAt (markF (1 + (n + m))) (1 + (n + m)) k) (gn + gm)) && (((n + m) * (n + m)).ble 1048577 && (1 + (n + m) + (gn + gm)).ble 1000000000 && allUpTo (fun k => !heldAt (markF (1 + (n + m) + (gn + gm))) (1 + (n + m) + (gn + gm)) k) ((n + m) * (n + m))) && bif Int.ofNat (1 + (n + m) + (gn + gm) + (n + m) * (n + m)) != Int.ofNat (1 + (n + m) + (gn + gm) + (n + m) * (n + m)) then true else true)))))))))))))))), A.bool (bif decide (szC n gn cn 1048576 < 0) then true else bif decide (szC m gm cm (szC n gn cn 1048576) < 0) then true else bif bif !bif !eqL (n + m) (n + m) (jn n r u) (jn n r u) then false else bif !eqL (gn + gm) (gn + gm) (jn gn g v) (jn gn g v) then false else bif !eqL ((n + m) * (n + m)) ((n + m) * (n + m)) (joinC n m c w) (joinX n m c w) then false else true then true else false then false else bif !bif !eqL n n r r then false else bif !eqL gn gn g g then false else bif !eqL cn cn c c then false else true then false else bif !bif !eqL m m u u then false else bif !eqL gm gm v v then false else bif !eqL cm cm w w then false else true then false else bif bif !bif !eqL (n + m) (n + m) (jn n r u) (jn n r u) then false else bif !eqL (gn + gm) (gn + gm) (jn gn g v) (jn gn g v) then false else bif !eqL ((n + m) * (n + m)) ((n + m) * (n + m)) (joinC n m c w) (joinX n m c w) then false else true then true else false then false else bif Int.ofNat (1 + (n + m) + (gn + gm) + (n + m) * (n + m)) != Int.ofNat (1 + (n + m) + (gn + gm) + (n + m) * (n + m)) then false else bif bif !bif !eqL (n + m) (n + m) (jn n r u) (jn n r u) then false else bif !eqL (gn + gm) (gn + gm) (jn gn g v) (jn gn g v) then false else bif !eqL ((n + m) * (n + m)) ((n + m) * (n + m)) (joinC n m c w) (joinX n m c w) then false else true then true else false then false else bif Int.ofNat (1 + (n + m) + (gn + gm) + (n + m) * (n + m)) != Int.ofNat (1 + (n + m) + (gn + gm) + (n + m) * (n + m)) then false else true)) := by kernel_rfl
theorem joinF (n gn cn m gm cm : Nat) (r g c u v w : Nat → Nat) : autoLp (cfgMg idsJ envJoinF) (fun _ => none) Try.f14 [.agg [.ro 1 n (.flts .f32 r), .ro 1 gn (.flts .f32 g), .ro 1 cn (.flts .f32 c)], .agg [.ro 1 m (.flts .f32 u), .ro 1 gm (.flts .f32 v), .ro 1 cm (.flts .f32 w)]] =
    some (bif decide (szC n gn cn 1048576 < 0) then true else bif decide (szC m gm cm (szC n gn cn 1048576) < 0) then true else !joinOk n gn cn m gm cm r g c u v w && (m.ble 1073741824 && (gm.ble 1073741824 && (cm.ble 1073741824 && true)) && (n.ble 1073741824 && (gn.ble 1073741824 && (cn.ble 1073741824 && true)) && true)) && (n.ble 1073741824 && (gn.ble 1073741824 && (cn.ble 1073741824 && true)) && (m.ble 1073741824 && (gm.ble 1073741824 && (cm.ble 1073741824 && true)) && (!joinOk n gn cn m gm cm r g c u v w && bif bif !true then true else false then true else n.ble 1073741824 && (gn.ble 1073741824 && (cn.ble 1073741824 && true)) && true && ((n.ble 4611686018427387904 && bif !eqL n n r r then true else gn.ble 4611686018427387904 && bif !eqL gn gn g g then true else cn.ble 4611686018427387904 && bif !eqL cn cn c c then true else true) && bif !bif !eqL n n r r then false else bif !eqL gn gn g g then false else bif !eqL cn cn c c then false else true then true else m.ble 1073741824 && (gm.ble 1073741824 && (cm.ble 1073741824 && true)) && true && ((m.ble 4611686018427387904 && bif !eqL m m u u then true else gm.ble 4611686018427387904 && bif !eqL gm gm v v then true else cm.ble 4611686018427387904 && bif !eqL cm cm w w then true else true) && bif !bif !eqL m m u u then false else bif !eqL gm gm v v then false else bif !eqL cm cm w w then false else true then true else n.beq n && n.ble 1048577 && true && (gn.beq gn && gn.ble 1048577 && (1 + n).ble 1000000000 && (cn.beq cn && cn.ble 1048577 && (1 + n + gn).ble 1000000000 && (m.beq m && m.ble 1048577 && (1 + n + gn + cn).ble 1000000000 && (gm.beq gm && gm.ble 1048577 && (1 + n + gn + cn + m).ble 1000000000 && (cm.beq cm && cm.ble 1048577 && (1 + n + gn + cn + m + gm).ble 1000000000 && ((true || false) && bif bif !true then true else false then true else !joinOk n gn cn m gm cm r g c u v w && (m.ble 1073741824 && (gm.ble 1073741824 && (cm.ble 1073741824 && true)) && (n.ble 1073741824 && (gn.ble 1073741824 && (cn.ble 1073741824 && true)) && true)) && bif bif !true then true else false then true else true))))))))))), A.bool (bif decide (szC n gn cn 1048576 < 0) then true else bif decide (szC m gm cm (szC n gn cn 1048576) < 0) then true else bif bif !true then true else false then false else bif !bif !eqL n n r r then false else bif !eqL gn gn g g then false else bif !eqL cn cn c c then false else true then false else bif !bif !eqL m m u u then false else bif !eqL gm gm v v then false else bif !eqL cm cm w w then false else true then false else bif bif !true then true else false then false else bif bif !true then true else false then false else true)) := by kernel_rfl
end Go.Fw.C1

/-
  Circuits joined: the law.
-/
namespace Go.Fw.C1
open Go.Proofs
theorem eqL_join (n m : Nat) (c w : Nat → Nat) : eqL ((n + m) * (n + m)) ((n + m) * (n + m)) (joinC n m c w) (joinX n m c w) = true := by
  unfold eqL
  rw [Nat.beq_refl, show allUpTo (sameAt (joinC n m c w) (joinX n m c w)) ((n + m) * (n + m)) = true from allUpTo_iff.2 fun i hi => by
    unfold sameAt
    rw [joinX_eq hi]
    exact sameF_self _]
  rfl
theorem law14 {a b : A} (ha : CircA a) (hb : CircA b) : PureCall Try.prog 14 [a, b] (.bool true) := by
  obtain ⟨n, gn, cn, r, g, c, hs, _, rfl⟩ := ha
  obtain ⟨m, gm, cm, u, v, w, hs2, _, rfl⟩ := hb
  have keyT := (auto_at (cfgMg_ok idsJ_ok envJoinT_ok) Try.func14 (by kernel_rfl) (by kernel_rfl)).2 _ _ _ (joinT n gn cn m gm cm r g c u v w)
  have keyF := (auto_at (cfgMg_ok idsJ_ok envJoinF_ok) Try.func14 (by kernel_rfl) (by kernel_rfl)).2 _ _ _ (joinF n gn cn m gm cm r g c u v w)
  rcases szC_le (left := 1048576) (by omega) (by omega) hs.1 hs.2.1 hs.2.2 with e | ⟨e0, e⟩
  · rw [e] at keyF; exact keyF rfl
  rw [decide_eq_false (p := szC n gn cn 1048576 < 0) (by omega)] at keyT keyF
  rcases szC_le (left := szC n gn cn 1048576) (by omega) (by omega) hs2.1 hs2.2.1 hs2.2.2 with e' | ⟨e0', e'⟩
  · rw [e'] at keyF; exact keyF rfl
  rw [decide_eq_false (p := szC m gm cm (szC n gn cn 1048576) < 0) (by omega)] at keyT keyF
  have b1 : n ≤ 1048576 := by omega
  have b2 : gn ≤ 1048576 := by omega
  have b3 : cn ≤ 1048576 := by omega
  have b4 : m ≤ 1048576 := by omega
  have b5 : gm ≤ 1048576 := by omega
  have b6 : cm ≤ 1048576 := by omega
  clear e e0 e' e0'
  cases ho : joinOk n gn cn m gm cm r g c u v w
  · clear keyT
    simp only [ho, held_mark, eqL_self, beq_self_eq_true, bne_self_eq_false, Bool.cond_self, Bool.not_true, Bool.not_false, cond_false, cond_true, Bool.and_true, Bool.true_and, Bool.or_false, Bool.true_or, Nat.beq_refl, ble_of (show n ≤ 1073741824 by omega), ble_of (show gn ≤ 1073741824 by omega), ble_of (show cn ≤ 1073741824 by omega), ble_of (show m ≤ 1073741824 by omega), ble_of (show gm ≤ 1073741824 by omega), ble_of (show cm ≤ 1073741824 by omega), ble_of (show n ≤ 4611686018427387904 by omega), ble_of (show gn ≤ 4611686018427387904 by omega), ble_of (show cn ≤ 4611686018427387904 by omega), ble_of (show m ≤ 4611686018427387904 by omega), ble_of (show gm ≤ 4611686018427387904 by omega), ble_of (show cm ≤ 4611686018427387904 by omega), ble_of (show n ≤ 1048577 by omega), ble_of (show gn ≤ 1048577 by omega), ble_of (show cn ≤ 1048577 by omega), ble_of (show m ≤ 1048577 by omega), ble_of (show gm ≤ 1048577 by omega), ble_of (show cm ≤ 1048577 by omega), ble_of (show 1 + n ≤ 1000000000 by omega), ble_of (show 1 + n + gn ≤ 1000000000 by omega), ble_of (show 1 + n + gn + cn ≤ 1000000000 by omega), ble_of (show 1 + n + gn + cn + m ≤ 1000000000 by omega), ble_of (show 1 + n + gn + cn + m + gm ≤ 1000000000 by omega)] at keyF
    exact keyF trivial
  · obtain ⟨hva, hvb, h6⟩ := join_ok ho
    obtain ⟨a1, a2, a3, a4⟩ := valid_sizes hva
    obtain ⟨d1, d2, d3, d4⟩ := valid_sizes hvb
    have hN : (n + m) * (n + m) ≤ 36 := sq_le h6
    clear keyF
    simp only [ho, held_mark, eqL_self, eqL_join, beq_self_eq_true, bne_self_eq_false, Bool.cond_self, Bool.not_true, Bool.not_false, cond_false, cond_true, Bool.and_true, Bool.true_and, Bool.or_false, Bool.true_or, Nat.beq_refl, ble_of (show n ≤ 1073741824 by omega), ble_of (show gn ≤ 1073741824 by omega), ble_of (show cn ≤ 1073741824 by omega), ble_of (show m ≤ 1073741824 by omega), ble_of (show gm ≤ 1073741824 by omega), ble_of (show cm ≤ 1073741824 by omega), ble_of (show n ≤ 4611686018427387904 by omega), ble_of (show gn ≤ 4611686018427387904 by omega), ble_of (show cn ≤ 4611686018427387904 by omega), ble_of (show m ≤ 4611686018427387904 by omega), ble_of (show gm ≤ 4611686018427387904 by omega), ble_of (show cm ≤ 4611686018427387904 by omega), ble_of (show n ≤ 1048577 by omega), ble_of (show gn ≤ 1048577 by omega), ble_of (show cn ≤ 1048577 by omega), ble_of (show m ≤ 1048577 by omega), ble_of (show gm ≤ 1048577 by omega), ble_of (show cm ≤ 1048577 by omega), ble_of (show 1 + n ≤ 1000000000 by omega), ble_of (show 1 + n + gn ≤ 1000000000 by omega), ble_of (show 1 + n + gn + cn ≤ 1000000000 by omega), ble_of (show 1 + n + gn + cn + m ≤ 1000000000 by omega), ble_of (show 1 + n + gn + cn + m + gm ≤ 1000000000 by omega), ble_of (show n + m ≤ 4611686018427387904 by omega), ble_of (show gn + gm ≤ 4611686018427387904 by omega), ble_of (show (n + m) * (n + m) ≤ 4611686018427387904 by omega), ble_of (show n + m ≤ 1048577 by omega), ble_of (show gn + gm ≤ 1048577 by omega), ble_of (show (n + m) * (n + m) ≤ 1048577 by omega), ble_of (show 1 + (n + m) ≤ 1000000000 by omega), ble_of (show 1 + (n + m) + (gn + gm) ≤ 1000000000 by omega)] at keyT
    exact keyT trivial
end Go.Fw.C1
