/-
  An executor over abstract values (canonical floats, data as trees) for the part of the model's code that this
  program's functions use. Definitions alone; that it is right is shown in the texts behind it.
-/
import Derived.WalkKit
import Derived.Laws.FloatArith
import Derived.Laws.ComplexArith
import Derived.Orders
import Derived.Below
import Derived.Laws.StructEq

namespace Go.Fw
def qnan : FloatKind → Nat
  | .f32 => 2143289344
  | .f64 => 9221120237041090560
def isNaN (k : FloatKind) (b : Nat) : Bool := (k.decode b).isNaN
def can (k : FloatKind) (b : Nat) : Nat := match isNaN k b with | true => qnan k | false => b
def fop (op : BinOp) (k : FloatKind) (x y : Nat) : Nat := match floatBits op k x y with | some r => r | none => qnan k
def forder (k : FloatKind) (x y : Nat) : Option Ordering := k.format.order x y
def fmax (k : FloatKind) (x y : Nat) : Nat :=
  match forder k x y with
  | none => qnan k
  | some .lt => y
  | some .gt => x
  | some .eq => match (k.decode x).neg with | true => y | false => x
def fneg (k : FloatKind) (x : Nat) : Nat := match isNaN k x with | true => qnan k | false => Op.negFloat k x
def fofInt (k : FloatKind) (n : Int) : Nat := k.nearest n
def fsqrt (x : Nat) : Nat := match FloatKind.f64.format.sqrt x with | some r => r | none => qnan .f64
def fcvt (s d : FloatKind) (x : Nat) : Nat :=
  match s.decode x with
  | .nan _ _ => qnan d
  | .infinity g => d.encode (.infinity g)
  | .number g m e => d.encode (.number g m e)
def fcvtOk (s d : FloatKind) (x : Nat) : Bool :=
  match s.decode x with
  | .number g m e => !(d.decode (d.encode (.number g m e))).isInfinity
  | _ => true
def ftoIntOk (s : FloatKind) (x : Nat) (d : IntKind) : Bool := (floatToIntVal s x d).isSome
def ftoInt (s : FloatKind) (x : Nat) (d : IntKind) : Int := (floatToIntVal s x d).getD 0
def bclrC (k : IntKind) (x y : Int) : Int := k.wrap (BitVec.ofInt k.bits x &&& ~~~BitVec.ofInt k.bits y).toNat
def bclr (k : IntKind) (x y : Int) : Int := match x.toNat with | 0 => bclrC k x y | _ + 1 => bclrC k x y
theorem bclr_eq (k : IntKind) (x y : Int) : bclr k x y = bclrC k x y := by unfold bclr; split <;> rfl
def shrC (k : IntKind) (x y : Int) : Int := x.fdiv (2 ^ (min y.toNat k.bits))
def shrI (k : IntKind) (x y : Int) : Int := match x.toNat with | 0 => shrC k x y | _ + 1 => shrC k x y
theorem shrI_eq (k : IntKind) (x y : Int) : shrI k x y = shrC k x y := by unfold shrI; split <;> rfl
def bandC (k : IntKind) (x y : Int) : Int := k.wrap (BitVec.ofInt k.bits x &&& BitVec.ofInt k.bits y).toNat
def bandI (k : IntKind) (x y : Int) : Int := match x.toNat with | 0 => bandC k x y | _ + 1 => bandC k x y
theorem bandI_eq (k : IntKind) (x y : Int) : bandI k x y = bandC k x y := by unfold bandI; split <;> rfl
inductive Row (α : Type) where
  | flts (k : FloatKind) (xs : Nat → Nat)
  | vecs (k : FloatKind) (xs ys zs : Nat → Nat)
  | cpxs (k : FloatKind) (xs ys : Nat → Nat)
  | flns (k : FloatKind) (n : Nat) (xs : Nat → Nat → Nat)
  | wires (len : Nat → Nat) (xs ys zs : Nat → Nat → Nat) (cl : Nat → Bool) (cur : Nat → Nat)
  | gen (get : Nat → α)
inductive A where
  | any
  | bool (b : Bool)
  | int (k : IntKind) (n : Int)
  | flt (k : FloatKind) (n : Nat)
  | cpx (k : FloatKind) (a b : Nat)
  | agg (cs : List A)
  | tup (vs : List A)
  | nilp
  | emp
  | nils
  | ptr (id off : Nat)
  | rpt (id esz i off : Nat)
  | rop (d : A) (off : Nat)
  | sl (id len : Nat)
  | ro (esz len : Nat) (get : Row A)
  | fn (f : Nat) (caps : List A)
  deriving Inhabited
def Row.at : Row A → Nat → A
  | .flts k xs, i => .flt k (xs i)
  | .vecs k xs ys zs, i => .agg [.flt k (xs i), .flt k (ys i), .flt k (zs i)]
  | .cpxs k xs ys, i => .cpx k (xs i) (ys i)
  | .flns k n xs, i => .agg ((List.range n).map fun j => .flt k (xs i j))
  | .wires len xs ys zs cl cur, i => .agg [.ro 3 (len i) (.vecs .f32 (xs i) (ys i) (zs i)), .bool (cl i), .flt .f32 (cur i)]
  | .gen f, i => f i
instance : CoeFun (Row A) fun _ => Nat → A := ⟨Row.at⟩
def Row.shift (l : Nat) : Row A → Row A
  | .flts k xs => .flts k fun i => xs (l + i)
  | .vecs k xs ys zs => .vecs k (fun i => xs (l + i)) (fun i => ys (l + i)) (fun i => zs (l + i))
  | .cpxs k xs ys => .cpxs k (fun i => xs (l + i)) (fun i => ys (l + i))
  | .flns k n xs => .flns k n fun i => xs (l + i)
  | .wires len xs ys zs cl cur => .wires (fun i => len (l + i)) (fun i => xs (l + i)) (fun i => ys (l + i)) (fun i => zs (l + i)) (fun i => cl (l + i)) (fun i => cur (l + i))
  | .gen f => .gen fun i => f (l + i)
theorem Row.shift_at (l : Nat) (g : Row A) (i : Nat) : (g.shift l) i = g (l + i) := by cases g <;> rfl
def fltsOf (k : FloatKind) : List A → Option (List Nat)
  | [] => some []
  | .flt k' x :: r => match decide (k' = k), fltsOf k r with
    | true, some l => some (x :: l)
    | _, _ => none
  | _ :: _ => none
theorem fltsOf_eq {k : FloatKind} : ∀ {l : List A} {ns : List Nat}, fltsOf k l = some ns → l = ns.map fun n => .flt k n
  | [], ns, h => by simp only [fltsOf, Option.some.injEq] at h; subst h; rfl
  | x :: r, ns, h => by
    cases x <;> simp only [fltsOf] at h <;> try (cases h; done)
    split at h
    · rename_i k' n l hk hl
      injection h with h
      subst h
      rw [fltsOf_eq hl, of_decide_eq_true hk]
      rfl
    · cases h
def Row.set (g : Row A) (i : Nat) (v : A) : Row A :=
  match g, v with
  | .flts k xs, .flt k' x => match decide (k' = k) with
    | true => .flts k fun j => match decide (j = i) with | true => x | false => xs j
    | false => .gen fun j => match decide (j = i) with | true => v | false => g.at j
  | .vecs k xs ys zs, .agg [.flt k1 x, .flt k2 y, .flt k3 z] => match decide (k1 = k), decide (k2 = k), decide (k3 = k) with
    | true, true, true => .vecs k (fun j => match decide (j = i) with | true => x | false => xs j) (fun j => match decide (j = i) with | true => y | false => ys j) (fun j => match decide (j = i) with | true => z | false => zs j)
    | _, _, _ => .gen fun j => match decide (j = i) with | true => v | false => g.at j
  | .cpxs k xs ys, .cpx k' x y => match decide (k' = k) with
    | true => .cpxs k (fun j => match decide (j = i) with | true => x | false => xs j) (fun j => match decide (j = i) with | true => y | false => ys j)
    | false => .gen fun j => match decide (j = i) with | true => v | false => g.at j
  | _, _ => .gen fun j => match decide (j = i) with | true => v | false => g.at j
theorem Row.set_at (g : Row A) (i : Nat) (v : A) (j : Nat) : (g.set i v).at j = match decide (j = i) with | true => v | false => g.at j := by
  unfold Row.set
  split
  · split
    · rename_i hk; have := of_decide_eq_true hk; subst this; simp only [Row.at]; cases decide (j = i) <;> rfl
    · rfl
  · split
    · rename_i h1 h2 h3
      have := of_decide_eq_true h1; have := of_decide_eq_true h2; have := of_decide_eq_true h3; subst_vars
      simp only [Row.at]
      cases decide (j = i) <;> rfl
    · rfl
  · split
    · rename_i hk; have := of_decide_eq_true hk; subst this; simp only [Row.at]; cases decide (j = i) <;> rfl
    · rfl
  · rfl
def Row.app (l : Nat) (g g' : Row A) : Row A :=
  match g, g' with
  | .flts k xs, .flts k' ys => match decide (k' = k) with
    | true => .flts k fun j => match decide (j < l) with | true => xs j | false => ys (j - l)
    | false => .gen fun j => match decide (j < l) with | true => g.at j | false => g'.at (j - l)
  | .vecs k xs ys zs, .vecs k' xs' ys' zs' => match decide (k' = k) with
    | true => .vecs k (fun j => match decide (j < l) with | true => xs j | false => xs' (j - l)) (fun j => match decide (j < l) with | true => ys j | false => ys' (j - l)) (fun j => match decide (j < l) with | true => zs j | false => zs' (j - l))
    | false => .gen fun j => match decide (j < l) with | true => g.at j | false => g'.at (j - l)
  | .cpxs k xs ys, .cpxs k' xs' ys' => match decide (k' = k) with
    | true => .cpxs k (fun j => match decide (j < l) with | true => xs j | false => xs' (j - l)) (fun j => match decide (j < l) with | true => ys j | false => ys' (j - l))
    | false => .gen fun j => match decide (j < l) with | true => g.at j | false => g'.at (j - l)
  | .flns k n xs, .flns k' n' ys => match decide (k' = k), Nat.beq n' n with
    | true, true => .flns k n fun j => match decide (j < l) with | true => xs j | false => ys (j - l)
    | _, _ => .gen fun j => match decide (j < l) with | true => g.at j | false => g'.at (j - l)
  | _, _ => match Nat.beq l 0 with
    | true => g'
    | false => .gen fun j => match decide (j < l) with | true => g.at j | false => g'.at (j - l)
theorem Row.app_at (l : Nat) (g g' : Row A) (j : Nat) : (Row.app l g g').at j = match decide (j < l) with | true => g.at j | false => g'.at (j - l) := by
  unfold Row.app
  split
  · split
    · rename_i hk; have := of_decide_eq_true hk; subst this; simp only [Row.at]; cases decide (j < l) <;> rfl
    · rfl
  · split
    · rename_i hk; have := of_decide_eq_true hk; subst this; simp only [Row.at]; cases decide (j < l) <;> rfl
    · rfl
  · split
    · rename_i hk; have := of_decide_eq_true hk; subst this; simp only [Row.at]; cases decide (j < l) <;> rfl
    · rfl
  · split
    · rename_i hk hn; have := of_decide_eq_true hk; have hn := Nat.eq_of_beq_eq_true hn; subst this hn; simp only [Row.at]; cases decide (j < l) <;> rfl
    · rfl
  · split
    · rename_i h0
      have h0 := Nat.eq_of_beq_eq_true h0
      subst h0
      rfl
    · rfl
def aggFlts (k : FloatKind) (n : Nat) : List A → Option (List (List Nat))
  | [] => some []
  | .agg cs :: r => match fltsOf k cs, aggFlts k n r with
    | some ns, some l => match Nat.beq ns.length n with | true => some (ns :: l) | false => none
    | _, _ => none
  | _ :: _ => none
theorem aggFlts_eq {k : FloatKind} {n : Nat} : ∀ {l : List A} {ns : List (List Nat)}, aggFlts k n l = some ns → l = ns.map (fun m => .agg (m.map fun x => .flt k x)) ∧ ∀ m, m ∈ ns → m.length = n
  | [], ns, h => by simp only [aggFlts, Option.some.injEq] at h; subst h; exact ⟨rfl, fun m hm => by cases hm⟩
  | x :: r, ns, h => by
    cases x <;> simp only [aggFlts] at h <;> try (cases h; done)
    split at h
    · rename_i cs ms l hm hl
      split at h
      · rename_i hb
        injection h with h
        subst h
        have := aggFlts_eq hl
        refine ⟨by rw [fltsOf_eq hm, this.1]; rfl, fun m hmm => ?_⟩
        rcases List.mem_cons.1 hmm with rfl | hmm
        · exact Nat.eq_of_beq_eq_true hb
        · exact this.2 m hmm
      · cases h
    · cases h
def wiresOf : List A → Option (List (Nat × ((Nat → Nat) × (Nat → Nat) × (Nat → Nat)) × Bool × Nat))
  | [] => some []
  | .agg [.ro 3 n (.vecs .f32 x y z), .bool b, .flt .f32 c] :: r => match wiresOf r with
    | some l => some ((n, (x, y, z), b, c) :: l)
    | none => none
  | _ :: _ => none
def wireRow (ws : List (Nat × ((Nat → Nat) × (Nat → Nat) × (Nat → Nat)) × Bool × Nat)) : Row A :=
  .wires (fun i => (ws.map fun w => w.1).getD i 0) (fun i => (ws.map fun w => w.2.1.1).getD i fun _ => 0) (fun i => (ws.map fun w => w.2.1.2.1).getD i fun _ => 0) (fun i => (ws.map fun w => w.2.1.2.2).getD i fun _ => 0) (fun i => (ws.map fun w => w.2.2.1).getD i false) (fun i => (ws.map fun w => w.2.2.2).getD i 0)
theorem wireRow_at : ∀ {l : List A} {ws : List (Nat × ((Nat → Nat) × (Nat → Nat) × (Nat → Nat)) × Bool × Nat)} {i : Nat}, wiresOf l = some ws → i < l.length → (wireRow ws).at i = l.getD i .any
  | [], _, _, _, hi => absurd hi (Nat.not_lt_zero _)
  | a :: r, ws, i, h, hi => by
    unfold wiresOf at h
    split at h
    · rename_i heq; cases heq
    · rename_i n x y z b c r' heq
      obtain ⟨rfl, rfl⟩ := List.cons.inj heq
      split at h
      · rename_i l' hl
        injection h with h
        subst h
        match i, hi with
        | 0, _ => rfl
        | i + 1, hi => exact wireRow_at (l := r) hl (Nat.lt_of_succ_lt_succ hi)
      · cases h
    · cases h
def Row.lit (l : List A) : Row A :=
  match l with
  | .flt k x :: r => match fltsOf k (.flt k x :: r) with
    | some ns => .flts k fun i => ns.getD i 0
    | none => .gen fun i => l.getD i .any
  | .cpx k x y :: [] => .cpxs k (fun _ => x) (fun _ => y)
  | .agg (.flt k x :: cs) :: r => match aggFlts k (cs.length + 1) (.agg (.flt k x :: cs) :: r) with
    | some ns => match cs with
      | [_, _] => .vecs k (fun i => (ns.getD i []).getD 0 0) (fun i => (ns.getD i []).getD 1 0) (fun i => (ns.getD i []).getD 2 0)
      | _ => .flns k (cs.length + 1) fun i j => (ns.getD i []).getD j 0
    | none => .gen fun i => l.getD i .any
  | .agg (.ro e n g :: cs) :: r => match wiresOf (.agg (.ro e n g :: cs) :: r) with
    | some ws => wireRow ws
    | none => .gen fun i => l.getD i .any
  | _ => .gen fun i => l.getD i .any
theorem Row.lit_at {l : List A} {i : Nat} (hi : i < l.length) : (Row.lit l).at i = l.getD i .any := by
  unfold Row.lit
  split
  · split
    · rename_i ns hn
      rw [fltsOf_eq hn] at hi ⊢
      simp only [List.length_map] at hi
      simp [Row.at, List.getD, List.getElem?_eq_getElem hi]
    · rfl
  · have : i = 0 := by simpa using hi
    subst this
    rfl
  · split
    · rename_i ns hn
      obtain ⟨h1, h2⟩ := aggFlts_eq hn
      rw [h1] at hi ⊢
      simp only [List.length_map] at hi
      have h3 := h2 _ (List.getElem_mem hi)
      have h4 : ∀ k, (List.map (fun m : List Nat => A.agg (m.map fun x => A.flt k x)) ns).getD i .any = .agg ((ns[i]'hi).map fun x => .flt k x) := fun k => by
        simp [List.getD, List.getElem?_eq_getElem hi]
      have h5 : ns.getD i [] = ns[i]'hi := by simp [List.getD, List.getElem?_eq_getElem hi]
      rw [h4]
      generalize ns[i]'hi = m at *
      split
      · simp only [Row.at, h5]
        match m, h3 with
        | [a, b, c], _ => rfl
      · simp only [Row.at, h5]
        congr 1
        apply List.ext_getElem
        · simp [h3]
        · intro j hj1 hj2
          simp at hj1 hj2
          simp [List.getD, List.getElem?_eq_getElem hj2]
    · rfl
  · split
    · rename_i ws hw
      exact wireRow_at hw hi
    · rfl
  · rfl
def Row.rep (v : A) : Row A :=
  match v with
  | .flt k x => .flts k fun _ => x
  | .cpx k x y => .cpxs k (fun _ => x) (fun _ => y)
  | .agg [.flt k1 x, .flt k2 y, .flt k3 z] => match decide (k2 = k1), decide (k3 = k1) with
    | true, true => .vecs k1 (fun _ => x) (fun _ => y) (fun _ => z)
    | _, _ => .gen fun _ => v
  | _ => .gen fun _ => v
theorem Row.rep_at (v : A) (i : Nat) : (Row.rep v).at i = v := by
  unfold Row.rep
  split
  · rfl
  · rfl
  · split
    · rename_i h1 h2; have := of_decide_eq_true h1; have := of_decide_eq_true h2; subst_vars; rfl
    · rfl
  · rfl
def A.known : A → Bool
  | .any => false
  | _ => true
def A.flat : A → Bool
  | .agg _ | .tup _ | .any => false
  | _ => true
def allFlat : List A → Bool
  | [] => true
  | x :: r => match x.flat with | true => allFlat r | false => false
def A.cells : A → List A
  | .agg cs => cs
  | x => [x]
inductive O where
  | var (cs : List A)
  | row (e esz len : Nat) (get : Row A)
  | arr (e esz len : Nat) (cells : List A)
structure Grd where
  t : Nat
  s : Nat
  w : Bool
  a : A
structure St where
  n : Nat
  lo : Nat
  tmps : List (Nat × A)
  grds : List Grd
  mem : List (Nat × O)
  next : Nat
def look {β : Type} : List (Nat × β) → Nat → Option β
  | [], _ => none
  | p :: r, t => match Nat.beq p.1 t with | true => some p.2 | false => look r t
def St.get (σ : St) (t : Nat) : A := match look σ.tmps t with | some a => a | none => .any
def St.obj (σ : St) (i : Nat) : Option O := look σ.mem i
structure TI where
  agg : Bool := false
  size : Nat := 1
  bytes : Nat := 0
  zero : List A := []
  fields : List (Nat × Nat) := []
  elem : Option Nat := none
  fk : Option FloatKind := none
  ik : Option IntKind := none
  ck : Option FloatKind := none
  isBool : Bool := false
  v3 : Bool := false
inductive Ext where
  | sqrt | bits32 | bits64 | from32 | from64
inductive XK where
  | normal
  | ret
  | exit (id : Nat)
inductive T where
  | leaf (x : XK) (σ : St)
  | ite (b : Bool) (t e : T)
  | fail
  | loop (body : Code) (σ : St) (k : XK → St → T)
structure Cfg where
  tt : Nat → Option TI
  ft : Nat → Option Func
  xt : Nat → Option Ext
  env : Nat → Option (List A → Option (Bool × A))
  fx : Nat → Option (St → T) := fun _ => none
def ofConst : Value → A
  | .bool b => .bool b
  | .int k n => .int k n
  | .float k b => match (Lit.float k b).wf with | true => .flt k (can k b) | false => .any
  | .complex k a b => match (Lit.float k a).wf && (Lit.float k b).wf with | true => .cpx k (can k a) (can k b) | false => .any
  | .pointer none => .nilp
  | .slice none 0 0 => .emp
  | .func (.func f) x y => match x.toList, y.toList with | [], [] => .fn f [] | _, _ => .any
  | _ => .any
def sameOpd : Operand → Operand → Bool
  | .tmp x, .tmp y => Nat.beq x y
  | .const (.int .i64 x), .const (.int .i64 y) => decide (x = y)
  | _, _ => false
def opd (get : Nat → A) : Operand → A
  | .tmp t => get t
  | .const v => ofConst v
  | .func f => .fn f []
  | .global _ => .any
mutual
def A.data : A → Bool
  | .any | .ptr .. | .rpt .. | .sl .. => false
  | .bool _ | .int .. | .flt .. | .cpx .. | .nilp | .emp | .nils | .ro .. => true
  | .agg cs => A.datas cs
  | .tup cs => A.datas cs
  | .rop d _ => d.data
  | .fn _ cs => A.datas cs
def A.datas : List A → Bool
  | [] => true
  | x :: r => match x.data with | true => A.datas r | false => false
end
mutual
def A.has (id : Nat) : A → Bool
  | .sl i _ => Nat.beq i id
  | .rpt i _ _ _ => Nat.beq i id
  | .ptr i _ => Nat.beq i id
  | .agg cs => A.hasAny id cs
  | .tup cs => A.hasAny id cs
  | .fn _ cs => A.hasAny id cs
  | _ => false
def A.hasAny (id : Nat) : List A → Bool
  | [] => false
  | x :: r => match x.has id with | true => true | false => A.hasAny id r
end
def A.erase (id : Nat) (a : A) : A := match a.has id with | true => .any | false => a
def O.erase (id : Nat) : O → O
  | .var cs => .var (cs.map (A.erase id))
  | .arr e z l cs => .arr e z l (cs.map (A.erase id))
  | o => o
mutual
def toD (obj : Nat → Option O) : Nat → A → Option (Bool × A)
  | 0, _ => none
  | fuel + 1, x => match x with
    | .bool _ | .int .. | .flt .. | .cpx .. | .nilp | .emp | .nils | .ro .. => some (true, x)
    | .rop d o => match d.data with | true => some (true, .rop d o) | false => none
    | .agg cs => match toDs obj fuel cs with | some (c, ds) => some (c, .agg ds) | none => none
    | .tup cs => match toDs obj fuel cs with | some (c, ds) => some (c, .tup ds) | none => none
    | .fn f cs => match toDs obj fuel cs with | some (c, ds) => some (c, .fn f ds) | none => none
    | .ptr id off => match obj id with
      | some (.var cs) => match toDs obj fuel cs with | some (c, ds) => some (c, .rop (.agg ds) off) | none => none
      | _ => none
    | .sl id _ => match obj id with
      | some (.row _ esz l get) => some (true, .ro esz l get)
      | _ => none
    | _ => none
def toDs (obj : Nat → Option O) : Nat → List A → Option (Bool × List A)
  | 0, _ => none
  | _ + 1, [] => some (true, [])
  | fuel + 1, x :: r => match toD obj fuel x with
    | some (c, d) => match toDs obj fuel r with
      | some (c', ds) => some (c && c', d :: ds)
      | none => none
    | none => none
end
mutual
def imp (i : Nat) : A → A × List (Nat × O) × Nat
  | .ro esz len get => (.sl i len, [(i, .row 0 esz len get)], i + 1)
  | .agg cs => match imps i cs with | (ds, os, j) => (.agg ds, os, j)
  | .tup cs => match imps i cs with | (ds, os, j) => (.tup ds, os, j)
  | x => (x, [], i)
def imps (i : Nat) : List A → List A × List (Nat × O) × Nat
  | [] => ([], [], i)
  | x :: r => match imp i x with
    | (d, os, j) => match imps j r with
      | (ds, os', j') => (d :: ds, os ++ os', j')
end
def pickA (b : Bool) : A → A → Option A
  | .bool x, .bool y => some (.bool (cond b x y))
  | .int k x, .int k' y => match decide (k = k') with | true => some (.int k (cond b x y)) | false => none
  | .flt k x, .flt k' y => match decide (k = k') with | true => some (.flt k (cond b x y)) | false => none
  | _, _ => none
def takeCells (cs : List A) (off size : Nat) (agg : Bool) : Option A :=
  match agg with
  | true => match Nat.ble (off + size) cs.length with | true => some (.agg ((cs.drop off).take size)) | false => none
  | false => cs[off]?
def loadA (obj : Nat → Option O) (ti : TI) : A → Option A
  | .ptr id off => match obj id with
    | some (.var cs) => takeCells cs off ti.size ti.agg
    | _ => none
  | .rpt id esz i off => match obj id with
    | some (.row _ esz' _ get) => match Nat.beq esz esz' with
      | true => takeCells (get i).cells off ti.size ti.agg
      | false => none
    | some (.arr _ esz' _ cs) => match Nat.beq esz esz', Nat.ble (off + ti.size) esz with
      | true, true => takeCells cs (i * esz + off) ti.size ti.agg
      | _, _ => none
    | _ => none
  | .rop d off => takeCells d.cells off ti.size ti.agg
  | _ => none
def intArith (op : BinOp) (k : IntKind) (x y : Int) : Option (Bool × A) :=
  match op with
  | .andNot => some (true, .int k (bclr k x y))
  | .and => some (true, .int k (bandI k x y))
  | .shr => some (decide (0 ≤ y), .int k (shrI k x y))
  | .add => some (true, .int k (k.wrap (x + y)))
  | .sub => some (true, .int k (k.wrap (x - y)))
  | .mul => some (true, .int k (k.wrap (x * y)))
  | .quo => some (!(decide (y = 0)), .int k (k.wrap (x.tdiv y)))
  | .rem => some (!(decide (y = 0)), .int k (x.tmod y))
  | .eql => some (true, .bool (x == y))
  | .neq => some (true, .bool (x != y))
  | .lss => some (true, .bool (decide (x < y)))
  | .leq => some (true, .bool (decide (x ≤ y)))
  | .gtr => some (true, .bool (decide (x > y)))
  | .geq => some (true, .bool (decide (x ≥ y)))
  | _ => none
def fltArith (op : BinOp) (k : FloatKind) (x y : Nat) : Option A :=
  match op with
  | .add | .sub | .mul | .quo => some (.flt k (fop op k x y))
  | .eql => some (.bool (forder k x y == some .eq))
  | .neq => some (.bool (forder k x y != some .eq))
  | .lss => some (.bool (forder k x y == some .lt))
  | .leq => some (.bool (forder k x y == some .lt || forder k x y == some .eq))
  | .gtr => some (.bool (forder k x y == some .gt))
  | .geq => some (.bool (forder k x y == some .gt || forder k x y == some .eq))
  | _ => none
def binA (tt : Nat → Option TI) (op : BinOp) (t : Nat) : A → A → Option (Bool × A)
  | .int k x, .int k' y => match decide (k = k') with
    | true => intArith op k x y
    | false => match op with
      | .shr => some (decide (0 ≤ y), .int k (shrI k x y))
      | _ => none
  | .flt k x, .flt k' y => match decide (k = k') with
    | true => match fltArith op k x y with | some a => some (true, a) | none => none
    | false => none
  | .cpx k x y, .cpx k' x' y' => match decide (k = k') with
    | true => match op with
      | .eql => some (true, .bool ((forder k x x' == some .eq) && (forder k y y' == some .eq)))
      | .neq => some (true, .bool (!((forder k x x' == some .eq) && (forder k y y' == some .eq))))
      | _ => none
    | false => none
  | .bool x, .bool y => match tt t with
    | some ti => match ti.isBool with
      | true => match op with
        | .eql => some (true, .bool (x == y))
        | .neq => some (true, .bool (!(x == y)))
        | _ => none
      | false => none
    | none => none
  | .agg [.flt k1 x, .flt k2 y, .flt k3 z], .agg [.flt l1 p, .flt l2 q, .flt l3 r] => match tt t with
    | some ti => match ti.v3 && (decide (k1 = .f32) && (decide (k2 = .f32) && (decide (k3 = .f32) && (decide (l1 = .f32) && (decide (l2 = .f32) && decide (l3 = .f32)))))) with
      | true => match op with
        | .eql => some (true, .bool ((forder .f32 x p == some .eq) && ((forder .f32 y q == some .eq) && (forder .f32 z r == some .eq))))
        | .neq => some (true, .bool (!((forder .f32 x p == some .eq) && ((forder .f32 y q == some .eq) && (forder .f32 z r == some .eq)))))
        | _ => none
      | false => none
    | none => none
  | _, _ => none
def unA (op : UnOp) : A → Option A
  | .int k n => match op with | .neg => some (.int k (k.wrap (0 - n))) | _ => none
  | .flt k n => match op with | .neg => some (.flt k (fneg k n)) | _ => none
  | .bool b => match op with | .not => some (.bool !b) | _ => none
  | _ => none
def convA (tt : Nat → Option TI) (src dst : Nat) : A → Option (Bool × A)
  | .int _ n => match tt src, tt dst with
    | some _, some ti => match ti.ik, ti.fk with
      | some k, _ => some (true, .int k (k.wrap n))
      | none, some k => some (true, .flt k (fofInt k n))
      | none, none => none
    | _, _ => none
  | .flt s n => match tt src, tt dst with
    | some _, some ti => match ti.ik, ti.fk with
      | some k, _ => some (ftoIntOk s n k, .int k (ftoInt s n k))
      | none, some k => match decide (s = k) with
        | true => some (true, .flt k n)
        | false => match s with
          | .f32 => some (true, .flt k (fcvt s k n))
          | .f64 => some (fcvtOk s k n, .flt k (fcvt s k n))
      | none, none => none
    | _, _ => none
  | .cpx s a b => match tt src, tt dst with
    | some _, some ti => match ti.ck with
      | some k => match decide (s = k) with
        | true => some (true, .cpx k a b)
        | false => match s with
          | .f32 => some (true, .cpx k (fcvt s k a) (fcvt s k b))
          | .f64 => some (fcvtOk s k a && fcvtOk s k b, .cpx k (fcvt s k a) (fcvt s k b))
      | none => none
    | _, _ => none
  | _ => none
def fillA (fields : List (Nat × Nat)) (cells : List A) : List (Nat × A) → Option (List A)
  | [] => some cells
  | (i, v) :: rest => match fields[i]? with
    | none => none
    | some (off, size) => match v.known && Nat.beq v.cells.length size, Nat.ble (off + size) cells.length with
      | true, true => fillA fields (cells.take off ++ v.cells ++ cells.drop (off + size)) rest
      | _, _ => none
def litRow (size : Nat) : List (Nat × A) → Nat → Option (List A)
  | [], _ => some []
  | (i, v) :: rest, j => match Nat.beq i j, Nat.beq v.cells.length size, v.data with
    | true, true, true => match allFlat v.cells with | false => none | true => match litRow size rest (j + 1) with | some l => some (v :: l) | none => none
    | _, _, _ => none
def litArr (size : Nat) : List (Nat × A) → Nat → Option (List A)
  | [], _ => some []
  | (i, v) :: rest, j => match Nat.beq i j, Nat.beq v.cells.length size, allFlat v.cells with
    | true, true, true => match litArr size rest (j + 1) with | some l => some (v.cells ++ l) | none => none
    | _, _, _ => none
def lenA : A → Option Int
  | .ro _ len _ => some (Int.ofNat len)
  | .sl _ len => some (Int.ofNat len)
  | .emp => some 0
  | .nils => some 0
  | _ => none
def indexA (tt : Nat → Option TI) (t : Nat) (obj : Nat → Option O) : A → A → Option (Bool × A)
  | .ro esz len get, .int _ i => match tt t with
    | some ti => match ti.elem with
      | some e => match tt e with
        | some ei => match Nat.beq ei.size esz with
          | true => some (decide (0 ≤ i) && decide (i < Int.ofNat len), .rop (get i.toNat) 0)
          | false => none
        | none => none
      | none => none
    | none => none
  | .sl id len, .int _ i => match tt t with
    | some ti => match ti.elem with
      | some e => match tt e with
        | some ei => match obj id with
          | some (.row _ esz _ _) => match Nat.beq ei.size esz with
            | true => some (decide (0 ≤ i) && decide (i < Int.ofNat len), .rpt id esz i.toNat 0)
            | false => none
          | some (.arr _ esz _ _) => match Nat.beq ei.size esz with
            | true => some (decide (0 ≤ i) && decide (i < Int.ofNat len), .rpt id esz i.toNat 0)
            | false => none
          | _ => none
        | none => none
      | none => none
    | none => none
  | _, _ => none
def sliceA (sz : Nat) (lo hi mx : Option A) : A → Option (Bool × A)
  | .ro esz len get => match Nat.beq esz sz with
    | false => none
    | true => match lo, hi, mx with
      | some (.int _ l), some (.int _ h), none => some (decide (0 ≤ l) && decide (l ≤ h) && decide (h ≤ Int.ofNat len), .ro esz (h - l).toNat (get.shift l.toNat))
      | none, some (.int _ h), none => some (decide (0 ≤ h) && decide (h ≤ Int.ofNat len), .ro esz h.toNat get)
      | some (.int _ l), none, none => some (decide (0 ≤ l) && decide (l ≤ Int.ofNat len), .ro esz (len - l.toNat) (get.shift l.toNat))
      | none, some (.int _ 0), some (.int _ 0) => some (true, .emp)
      | _, _, _ => none
  | .emp => match lo, hi, mx with
    | none, some (.int _ 0), none => some (true, .emp)
    | _, _, _ => none
  | _ => none
def extA : Ext → List A → Option (Bool × A)
  | .sqrt, [.flt .f64 x] => some (true, .flt .f64 (fsqrt x))
  | .bits32, [.flt .f32 x] => some (!isNaN .f32 x, .int .u32 (Int.ofNat x))
  | .bits64, [.flt .f64 x] => some (!isNaN .f64 x, .int .u64 (Int.ofNat x))
  | .from32, [.int .u32 n] => some (decide (0 ≤ n) && decide (n < 4294967296), .flt .f32 (can .f32 n.toNat))
  | .from64, [.int .u64 n] => some (decide (0 ≤ n) && decide (n < 18446744073709551616), .flt .f64 (can .f64 n.toNat))
  | _, _ => none
def rowPlainR (esz : Nat) : Row A → Bool
  | .flts .. => Nat.beq esz 1
  | .cpxs .. => Nat.beq esz 1
  | .vecs .. => Nat.beq esz 3
  | .flns _ n _ => Nat.beq esz n
  | _ => false
mutual
def A.plainR : A → Bool
  | .ro esz _ g => rowPlainR esz g
  | .agg cs => A.plainRs cs
  | .tup cs => A.plainRs cs
  | .bool _ | .int .. | .flt .. | .cpx .. | .nilp | .emp | .nils => true
  | _ => false
def A.plainRs : List A → Bool
  | [] => true
  | x :: r => match x.plainR with | true => A.plainRs r | false => false
end
def callA (cfg : Cfg) (obj : Nat → Option O) (own : Bool) (base : Nat) (f : Nat) (args : List A) : Option (Bool × A × List (Nat × O)) :=
  match cfg.xt f with
  | some e => match extA e args with | some (c, a) => some (c, a, []) | none => none
  | none => match cfg.env f with
    | none => none
    | some s => match toDs obj 64 args with
      | none => none
      | some (c, ds) => match s ds with
        | none => none
        | some (c', r) => match r.data && (r.plainR || A.datas args) with
         | false => none
         | true => match own with
          | true => match imp base r with
            | (a, os, j) => match Nat.ble j (base + 16) with | true => some (c && c', a, os) | false => none
          | false => some (c && c', r, [])
def evalQ (cfg : Cfg) (get : Nat → A) (obj : Nat → Option O) (own : Bool) (base : Nat) (o : Oper) : Option (Bool × A × List (Nat × O)) :=
  match o.op with
  | .move x | .assign x => some (true, opd get x, [])
  | .alloc t => match cfg.tt t with
    | some ti => some (true, .ptr base 0, [(base, .var ti.zero)])
    | none => none
  | .box _ x => match opd get x with
    | .any => none
    | a => some (true, .ptr base 0, [(base, .var a.cells)])
  | .build t parts => match cfg.tt t with
    | some ti => match ti.fields.isEmpty with
     | true => none
     | false => match fillA ti.fields ti.zero (parts.toList.map fun p => (p.1, opd get p.2)) with
      | some cs => some (true, .agg cs, [])
      | none => none
    | none => none
  | .buildSlice t len parts => match cfg.tt t with
    | some ti => match ti.elem with
      | some e => match cfg.tt e with
        | some ei => match litRow ei.size (parts.toList.map fun p => (p.1, opd get p.2)) 0 with
          | some l => match Nat.beq l.length len, Nat.ble (len * ei.size) 1000 with
            | true, true => match own with
              | true => some (true, .sl base len, [(base, .row e ei.size len (.lit l))])
              | false => some (true, .ro ei.size len (.lit l), [])
            | _, _ => none
          | none => match own, litArr ei.size (parts.toList.map fun p => (p.1, opd get p.2)) 0 with
            | true, some cs => match Nat.beq cs.length (len * ei.size) && Nat.beq parts.size len, Nat.ble (len * ei.size) 1000 with
              | true, true => some (true, .sl base len, [(base, .arr e ei.size len cs)])
              | _, _ => none
            | _, _ => none
        | none => none
      | none => none
    | none => none
  | .load t x => match cfg.tt t with
    | some ti => match loadA obj ti (opd get x) with | some a => some (true, a, []) | none => none
    | none => none
  | .nilCheck x => match opd get x with
    | .ptr i k => some (true, .ptr i k, [])
    | .rpt i e j k => some (true, .rpt i e j k, [])
    | .rop d k => some (true, .rop d k, [])
    | _ => none
  | .binOp op t x y _ => match binA cfg.tt op t (opd get x) (opd get y) with | some (c, a) => some (c, a, []) | none => none
  | .unOp op _ x => match unA op (opd get x) with | some a => some (true, a, []) | none => none
  | .convert s d x => match convA cfg.tt s d (opd get x) with | some (c, a) => some (c, a, []) | none => none
  | .makeSlice t l l' => match sameOpd l l' with
   | false => none
   | true => match cfg.tt t with
    | some ti => match ti.elem with
      | some e => match cfg.tt e with
        | some ei => match opd get l with
          | .int .i64 n => match Nat.ble ei.bytes 1000 with
           | false => none
           | true => some (decide (0 ≤ n) && decide (n ≤ 1073741824), .sl base n.toNat, [(base, .row e ei.size n.toNat (.rep (match ei.agg with | true => .agg ei.zero | false => ei.zero.getD 0 .any)))])
          | _ => none
        | none => none
      | none => none
    | none => none
  | .slice t x lo hi mx => match cfg.tt t with
    | some ti => match ti.elem with
      | some e => match cfg.tt e with
        | some ei => match sliceA ei.size (lo.map (opd get)) (hi.map (opd get)) (mx.map (opd get)) (opd get x) with | some (c, a) => some (c, a, []) | none => none
        | none => none
      | none => none
    | none => none
  | .fieldAddr t x f => match cfg.tt t with
    | some ti => match ti.fields[f]? with
      | some (off, _) => match opd get x with
        | .ptr i k => some (true, .ptr i (k + off), [])
        | .rpt i e j k => some (true, .rpt i e j (k + off), [])
        | .rop d k => some (true, .rop d (k + off), [])
        | _ => none
      | none => none
    | none => none
  | .indexAddr t x i => match indexA cfg.tt t obj (opd get x) (opd get i) with | some (c, a) => some (c, a, []) | none => none
  | .extract x i => match opd get x with
    | .tup vs => match vs[i]? with | some a => some (true, a, []) | none => none
    | _ => none
  | .makeFunc (.func f) first caps => match first.toList with | [] => some (true, .fn f (caps.toList.map (opd get)), []) | _ => none
  | .call c => match c.callee, c.args.toList with
    | .builtin .len, [x] => match c.argTypes.toList with
      | [t] => match cfg.tt t with
        | some ti => match ti.elem with
          | some _ => match lenA (opd get x) with | some n => some (true, .int .i64 n, []) | none => none
          | none => none
        | none => none
      | _ => none
    | .builtin .cap, [x] => match c.argTypes.toList with
      | [t] => match cfg.tt t with
        | some ti => match ti.elem with
          | some _ => match opd get x with | .emp => some (true, .int .i64 0, []) | _ => none
          | none => none
        | none => none
      | _ => none
    | .builtin .real, [x] => match opd get x with | .cpx k a _ => some (true, .flt k a, []) | _ => none
    | .builtin .imag, [x] => match opd get x with | .cpx k _ b => some (true, .flt k b, []) | _ => none
    | .builtin .complex, [x, y] => match opd get x, opd get y with
      | .flt k a, .flt k' b => match decide (k = k') with | true => some (true, .cpx k a b, []) | false => none
      | _, _ => none
    | .builtin .max, [x, y] => match opd get x, opd get y with
      | .flt k a, .flt k' b => match decide (k = k') with | true => some (true, .flt k (fmax k a b), []) | false => none
      | _, _ => none
    | .value f, args => match opd get f with
      | .fn g caps => callA cfg obj own base g (args.map (opd get) ++ caps)
      | _ => none
    | _, _ => none
  | _ => none
def evalNew (cfg : Cfg) (get : Nat → A) (obj : Nat → Option O) (own : Bool) (base : Nat) (o : Oper) : Option (Bool × A × List (Nat × O)) :=
  match o.op with
  | .buildSlice t 0 parts => match cfg.tt t with
    | some ti => match ti.elem with
      | some e => match cfg.tt e with
        | some _ => match parts.toList, own with
          | [], false => some (true, .emp, [])
          | _, _ => none
        | none => none
      | none => none
    | none => none
  | .binOp .eql t x (.const (.slice none 0 0)) _ => match cfg.tt t with
    | some ti => match ti.elem with
      | some _ => match opd get x with
        | .ro _ len _ => some (decide (0 < len), .bool false, [])
        | .sl id _ => match obj id with
          | some (.row _ _ l _) => some (decide (0 < l), .bool false, [])
          | _ => none
        | _ => none
      | none => none
    | none => none
  | .call c => match c.callee, c.args.toList, c.argTypes.toList with
    | .builtin .append, [s, x], [t, t'] => match Nat.beq t t', cfg.tt t with
      | true, some ti => match ti.elem with
        | some e => match cfg.tt e with
          | some ei => match Nat.ble ei.bytes 1000, opd get s with
            | true, .emp => match opd get x with
              | .ro esz m g => match Nat.beq esz ei.size with
                | true => some (decide (0 < m) && decide (m ≤ 1073741824), .sl base m, [(base, .row e ei.size m g)])
                | false => none
              | .sl id _ => match obj id with
                | some (.row _ esz m g) => match Nat.beq esz ei.size with
                  | true => some (decide (0 < m) && decide (m ≤ 1073741824), .sl base m, [(base, .row e ei.size m g)])
                  | false => none
                | _ => none
              | _ => none
            | _, _ => none
          | none => none
        | none => none
      | false, some ti => match ti.elem, cfg.tt t' with
        | some e, some ti' => match ti'.ik, cfg.tt e, opd get s, opd get x with
          | some _, some ei, .emp, .int _ n => match Nat.ble ei.bytes 1000 with
            | true => some (decide (0 < n) && decide (n ≤ 1073741824), .sl base n.toNat, [(base, .row e ei.size n.toNat (.rep (match ei.agg with | true => .agg ei.zero | false => ei.zero.getD 0 .any)))])
            | false => none
          | _, _, _, _ => none
        | _, _ => none
      | _, _ => none
    | _, _, _ => none
  | _ => none
def evalX (cfg : Cfg) (get : Nat → A) (obj : Nat → Option O) (own : Bool) (base : Nat) (o : Oper) : Option (Bool × A × List (Nat × O)) :=
  match evalNew cfg get obj own base o with
  | some r => some r
  | none => evalQ cfg get obj own base o
end Go.Fw

/-
  The executor itself: it runs the model's code on abstract states and gives a tree of outcomes.
-/
namespace Go.Fw
def T.bind : T → (XK → St → T) → T
  | .leaf x σ, f => f x σ
  | .ite b t e, f => .ite b (t.bind f) (e.bind f)
  | .fail, _ => .fail
  | .loop body σ k, f => .loop body σ fun x σ' => (k x σ').bind f
def grdFree (gs : List Grd) (d : Nat) : Bool :=
  match gs with
  | [] => true
  | g :: r => match Nat.beq g.s d, Nat.beq g.t d with
    | false, false => grdFree r d
    | _, _ => false
def grdAt (gs : List Grd) (t : Nat) : Option Grd :=
  match gs with
  | [] => none
  | g :: r => match Nat.beq g.t t with | true => some g | false => grdAt r t
def St.put (σ : St) (d : Option Nat) (a : A) : Option St :=
  match d with
  | none => some σ
  | some d => match Nat.blt d σ.n, grdFree σ.grds d with
    | true, true => some { σ with tmps := (d, a) :: σ.tmps }
    | _, _ => none
def St.addObjs (σ : St) (os : List (Nat × O)) : St := { σ with mem := os ++ σ.mem }
def St.erase (σ : St) (id : Nat) : St :=
  { σ with tmps := σ.tmps.map fun p => (p.1, p.2.erase id), mem := σ.mem.map fun p => (p.1, p.2.erase id) }
def guardOf (ops : Array Oper) (o : Oper) : Option (Option (Nat × Bool)) :=
  match o.guard with
  | none => some none
  | some (j, w) => match ops[j]? with
    | some oj => match oj.dst with
      | some s => some (some (s, w))
      | none => none
    | none => none
def gcond (σ : St) (s : Nat) (w : Bool) : Option Bool :=
  match grdAt σ.grds s with
  | none => match σ.get s with
    | .bool b => some (b == w)
    | _ => none
  | some g => match g.a, σ.get g.s with
    | .bool b, .bool b0 => some ((b0 == g.w) && (b == w))
    | _, _ => none
def St.getG (σ : St) (s : Nat) (w : Bool) (t : Nat) : A :=
  match grdAt σ.grds t with
  | none => σ.get t
  | some g => match Nat.beq g.s s && (g.w == w) with
    | true => g.a
    | false => match grdAt σ.grds s with
      | none => .any
      | some h => match Nat.beq g.s h.s && (g.w == h.w) with
        | true => g.a
        | false => .any
def St.get0 (σ : St) (t : Nat) : A :=
  match grdAt σ.grds t with
  | none => σ.get t
  | some _ => .any
def pickOf (σ : St) (get : Nat → A) (o : Oper) : Option A :=
  match o.op with
  | .pick c x y => match c with
    | .tmp s => match get s with
      | .bool b => match gcond σ s b with
       | none => none
       | some _ =>
        let side (w : Bool) : Operand → A
          | .tmp t => match grdAt σ.grds t with
            | some g => match Nat.beq g.s s && (g.w == w) with
              | true => g.a
              | false => get t
            | none => get t
          | z => opd get z
        pickA b (side true x) (side false y)
      | _ => none
    | _ => none
  | _ => none
def isPick (o : Oper) : Bool := match o.op with | .pick .. => true | _ => false
def idsOk (base : Nat) : List (Nat × O) → Bool
  | [] => true
  | p :: r => match Nat.ble base p.1, Nat.blt p.1 (base + 16) with
    | true, true => idsOk base r
    | _, _ => false
def looks (ops : Array Oper) (o : Oper) : List Nat :=
  (o.op.operands.toList.filterMap fun | .tmp t => some t | _ => none) ++
  (match o.guard with
   | some (g, _) => match ops[g]? with | some og => og.dst.toList | none => []
   | none => [])
def memNat (x : Nat) : List Nat → Bool
  | [] => false
  | y :: r => match Nat.beq x y with | true => true | false => memNat x r
def restr (l : List Nat) (get : Nat → A) (t : Nat) : A := match memNat t l with | true => get t | false => .any
def qVal (cfg : Cfg) (obj : Nat → Option O) (own : Nat → Bool) (base : Nat) (ops : Array Oper) (o : Oper) (σ : St) : Option (Option (Nat × Bool × Bool) × Bool × A × List (Nat × O)) :=
  match guardOf ops o with
  | none => none
  | some none =>
    match (match isPick o with
      | true => match pickOf σ σ.get0 o with | some a => some (true, a, []) | none => none
      | false => evalX cfg (restr (looks ops o) σ.get0) obj (own (match o.dst with | some d => d | none => 0)) base o) with
    | none => none
    | some (c, a, os) => some (none, c, a, os)
  | some (some (s, w)) => match gcond σ s w with
    | none => none
    | some gc =>
      match (match isPick o with
        | true => match pickOf σ (σ.getG s w) o with | some a => some (true, a, []) | none => none
        | false => evalX cfg (restr (looks ops o) (σ.getG s w)) obj false base o) with
      | some (c, a, []) => some (some (s, w, gc), c, a, [])
      | _ => none
def qPut (base : Nat) (o : Oper) (σ : St) : Option (Nat × Bool × Bool) × Bool × A × List (Nat × O) → Option (Bool × St)
  | (none, c, a, os) => match idsOk base os with
    | false => none
    | true => match (σ.addObjs os).put o.dst a with
      | some σ' => some (c, σ')
      | none => none
  | (some (s, w, gc), c, a, _) => match o.dst with
    | none => none
    | some d => match Nat.blt d σ.n, grdFree σ.grds d, Nat.beq s d with
      | true, true, false => some (c || !gc, { σ with tmps := (d, .any) :: σ.tmps, grds := ⟨d, s, w, a⟩ :: σ.grds })
      | _, _, _ => none
def qStep (cfg : Cfg) (obj : Nat → Option O) (own : Nat → Bool) (base : Nat) (ops : Array Oper) (o : Oper) (σ : St) : Option (Bool × St) :=
  match qVal cfg obj own base ops o σ with
  | none => none
  | some r => qPut base o σ r
def setCells (cs : List A) (off : Nat) (vs : List A) : List A := cs.take off ++ vs ++ cs.drop (off + vs.length)
def wStep (cfg : Cfg) (base : Nat) (o : Oper) (σ : St) : Option (Bool × St) :=
  match o.guard, σ.grds with
  | none, [] => match o.op with
    | .store t a x => match cfg.tt t, opd σ.get0 a, opd σ.get0 x with
      | some ti, .ptr id off, v => match σ.obj id with
        | some (.var cs) => match Nat.beq v.cells.length ti.size && allFlat v.cells, Nat.ble (off + ti.size) cs.length, o.dst with
          | true, true, none => some (true, { σ with mem := (id, .var (setCells cs off v.cells)) :: σ.mem })
          | _, _, _ => none
        | _ => none
      | some ti, .rpt id esz i off, v => match σ.obj id with
        | some (.row e esz' len get) => match Nat.beq esz esz', Nat.beq v.cells.length ti.size && allFlat v.cells, Nat.ble (off + ti.size) esz, v.data, o.dst with
          | true, true, true, true, none =>
            match Nat.beq ti.size esz, Nat.beq off 0 with
            | true, true => some (true, { σ with mem := (id, .row e esz len (get.set i v)) :: σ.mem })
            | _, _ => some (true, { σ with mem := (id, .row e esz len (get.set i (.agg (setCells (get i).cells off v.cells)))) :: σ.mem })
          | _, _, _, _, _ => none
        | some (.arr e esz' l cs) => match Nat.beq esz esz', Nat.beq v.cells.length ti.size && allFlat v.cells, Nat.ble (off + ti.size) esz, o.dst with
          | true, true, true, none => some (true, { σ with mem := (id, .arr e esz l (setCells cs (i * esz + off) v.cells)) :: σ.mem })
          | _, _, _, _ => none
        | _ => none
      | _, _, _ => none
    | .call c => match c.callee, c.args.toList, c.argTypes.toList with
     | .builtin .append, [s, x], [t, t'] => match Nat.beq t t', cfg.tt t with
      | true, some ti => match ti.elem with
        | some e => match cfg.tt e with
          | some ei => match Nat.ble ei.bytes 1000 && !(Nat.beq e 0) with
           | false => none
           | true =>
            let src : Option (Bool × Nat × Row A) := match opd σ.get0 x with
              | .ro esz m get => match Nat.beq esz ei.size with | true => some (true, m, get) | false => none
              | .sl id _ => match σ.obj id with
                | some (.row _ esz l get) => match Nat.beq esz ei.size with | true => some (true, l, get) | false => none
                | _ => none
              | .emp => some (true, 0, .gen fun _ => .any)
              | _ => none
            match src, o.dst with
            | some (c, m, getx), some _ => match opd σ.get0 s with
              | .emp =>
                match ({ σ with mem := (base, .row e ei.size m getx) :: σ.mem } : St).put o.dst (.sl base m) with
                | some σ' => some (c && decide (0 < m) && decide (m ≤ 1073741824), σ')
                | none => none
              | .sl id _ => match σ.obj id with
                | some (.row e' esz l get) => match Nat.beq esz ei.size && Nat.beq e e' with
                  | true => match Nat.ble σ.lo id with
                   | false => none
                   | true =>
                    match ((σ.erase id).addObjs [(id, .row e esz (l + m) (.app l get getx))]).put o.dst (.sl id (l + m)) with
                    | some σ' => some (c && decide (l + m ≤ 1073741824), σ')
                    | none => none
                  | false => none
                | _ => none
              | _ => none
            | _, _ => none
          | none => none
        | none => none
      | _, _ => none
     | _, _, _ => none
    | .slice t x none (some hi) none => match cfg.tt t, opd σ.get0 x, opd σ.get0 hi, o.dst with
      | some ti, .sl id _, .int _ h, some _ => match ti.elem, σ.obj id with
        | some e, some (.row e' esz l get) => match cfg.tt e, Nat.ble σ.lo id with
          | some _, true => match ((σ.erase id).addObjs [(id, .row e' esz h.toNat get)]).put o.dst (.sl id h.toNat) with
            | some σ' => some (decide (0 ≤ h) && decide (h ≤ Int.ofNat l), σ')
            | none => none
          | _, _ => none
        | _, _ => none
      | _, _, _, _ => none
    | _ => none
  | _, _ => none
def aStep (cfg : Cfg) (base : Nat) (o : Oper) (σ : St) : Option (Bool × St) :=
  match o.guard, σ.grds with
  | none, [] => match o.op with
    | .call c => match c.callee, c.args.toList, c.argTypes.toList with
      | .builtin .append, [s, x], [t, t'] => match Nat.beq t t', cfg.tt t with
        | true, some ti => match ti.elem with
          | some e => match cfg.tt e with
            | some ei => match Nat.ble ei.bytes 1000, opd σ.get0 x with
              | true, .sl idx _ => match σ.obj idx with
                | some (.arr _ esz m csx) => match Nat.beq esz ei.size && allFlat csx with
                  | false => none
                  | true => match opd σ.get0 s with
                    | .emp => match (σ.addObjs [(base, .arr e ei.size m csx)]).put o.dst (.sl base m) with
                      | some σ' => some (decide (0 < m) && decide (m ≤ 1073741824), σ')
                      | none => none
                    | .sl id _ => match σ.obj id with
                      | some (.arr e' esz' l cs) => match Nat.beq ei.size esz' && Nat.beq e e' && Nat.ble σ.lo id with
                        | true => match ((σ.erase id).addObjs [(id, .arr e ei.size (l + m) ((cs ++ csx).map (A.erase id)))]).put o.dst (.sl id (l + m)) with
                          | some σ' => some (decide (l + m ≤ 1073741824), σ')
                          | none => none
                        | false => none
                      | _ => none
                    | _ => none
                | _ => none
              | _, _ => none
            | none => none
          | none => none
        | _, _ => none
      | _, _, _ => none
    | _ => none
  | _, _ => none
def guarded (c : Bool) (t : T) : T := .ite c t .fail
def retOne (cfg : Cfg) (σ : St) : ResultVar → Option A
  | .tmp t => some (σ.get t)
  | .cell p ty => match cfg.tt ty with
    | some ti => loadA σ.obj ti (σ.get p)
    | none => none
def retAll (cfg : Cfg) (σ : St) : List ResultVar → Option (List A)
  | [] => some []
  | r :: rest => match retOne cfg σ r with
    | some a => match retAll cfg σ rest with | some l => some (a :: l) | none => none
    | none => none
def retVal (cfg : Cfg) (fn : Func) (σ : St) : Option A :=
  match retAll cfg σ fn.results.toList with
  | some [a] => some a
  | some l => some (.tup l)
  | none => none
def zipFrom : Nat → List A → List (Nat × A)
  | _, [] => []
  | i, a :: r => (i, a) :: zipFrom (i + 1) r
def St.enter (fn : Func) (args : List A) (mem : List (Nat × O)) (next : Nat) : St :=
  { n := fn.ntmps, lo := next, tmps := zipFrom 0 args, grds := [], mem, next }
def callee (cfg : Cfg) (σ : St) (o : Oper) : Option (Nat × Func × List A) :=
  match o.op, o.guard with
  | .call { callee := .value f, args, .. }, none => match opd σ.get0 f with
    | .fn g caps => match cfg.ft g with
      | some fn => some (g, fn, args.toList.map (opd σ.get0) ++ caps)
      | none => none
    | _ => none
  | _, _ => none
def stepOp (cfg : Cfg) (own : Nat → Bool) (ex : Code → St → T) (base : Nat) (ops : Array Oper) (o : Oper) (σ : St) : T :=
  match qStep cfg σ.obj own base ops o σ with
  | some (c, σ') => guarded c (.leaf .normal σ')
  | none => match wStep cfg base o σ with
    | some (c, σ') => guarded c (.leaf .normal σ')
    | none => match aStep cfg base o σ with
     | some (c, σ') => guarded c (.leaf .normal σ')
     | none => match callee cfg σ o with
       | some (g, fn, args) => match fn.body, Nat.ble args.length fn.ntmps with
         | some body, true => (match cfg.fx g with | some s => s (St.enter fn args σ.mem σ.next) | none => ex body (St.enter fn args σ.mem σ.next)).bind fun x σ' =>
           let back : T := match retVal cfg fn σ' with
             | some v => match ({ σ with grds := [], mem := σ'.mem, next := σ'.next } : St).put o.dst v with
               | some σ'' => .leaf .normal σ''
               | none => .fail
             | none => .fail
           match x with
           | .normal => back
           | .ret => back
           | .exit _ => .fail
         | _, _ => .fail
       | none => .fail
def runOps (cfg : Cfg) (own : Nat → Bool) (ex : Code → St → T) (ops : Array Oper) : Nat → List Oper → St → T
  | _, [], σ => .leaf .normal { σ with grds := [] }
  | base, o :: rest, σ => (stepOp cfg own ex base ops o σ).bind fun _ σ' => runOps cfg own ex ops (base + 16) rest σ'
def afters (o : Oper) : List Nat := (o.after.toList.filter (Region.binds .any)).map (·.on)
def allBefore (bs : List Nat) (j : Nat) : Bool :=
  match bs[j]? with
  | some b => Nat.beq (b % 2 ^ j) (2 ^ j - 1)
  | none => false
def tailFrom (bs : List Nat) : (j : Nat) → Nat
  | 0 => 0
  | j + 1 => match allBefore bs j with | true => tailFrom bs j | false => j + 1
def waits (ops : Array Oper) (j i : Nat) : Bool :=
  match ops[j]? with
  | some o => memNat i (afters o)
  | none => false
def tailOk (ops : Array Oper) (m : Nat) : Bool :=
  Nat.ble ops.size m ||
  ((List.range m).all (fun i => (List.range (m + 1)).any fun j => Nat.blt i j && waits ops j i) &&
   (List.range ops.size).all (fun t => Nat.ble t m || waits ops t (t - 1)))
def aftersOk (ops : Array Oper) : Bool := ops.toList.zipIdx.all fun (o, i) => (afters o).all fun j => Nat.blt j i
def isEarly (o : Oper) : Bool := match o.guard, o.dst, o.op with
  | none, none, .store .. => true
  | _, _, _ => false
def eObj (ti : TI) (ax ay : A) (obj : Nat → Option O) : Option (Nat × O) :=
  match ax with
  | .ptr id off => match obj id with
    | some (.var cs) => match Nat.beq ay.cells.length ti.size && allFlat ay.cells, Nat.ble (off + ti.size) cs.length with
      | true, true => some (id, .var (setCells cs off ay.cells))
      | _, _ => none
    | _ => none
  | .rpt id esz i off => match obj id with
    | some (.row e esz' len get) => match Nat.beq esz esz' && Nat.beq ti.size esz && Nat.beq off 0, Nat.beq ay.cells.length ti.size && allFlat ay.cells, ay.data with
      | true, true, true => some (id, .row e esz len (get.set i ay))
      | _, _, _ => none
    | some (.arr e esz' l cs) => match Nat.beq esz esz', Nat.beq ay.cells.length ti.size && allFlat ay.cells, Nat.ble (off + ti.size) esz with
      | true, true, true => some (id, .arr e esz l (setCells cs (i * esz + off) ay.cells))
      | _, _, _ => none
    | _ => none
  | _ => none
def eStep (cfg : Cfg) (o : Oper) (σ : St) : Option (Nat × St) :=
  match o.guard, o.dst, o.op with
  | none, none, .store t x y => match cfg.tt t with
    | some ti => match eObj ti (opd σ.get0 x) (opd σ.get0 y) σ.obj with
      | some (id, ob) => some (id, { σ with mem := (id, ob) :: σ.mem })
      | none => none
    | none => none
  | _, _, _ => none
def writerOf (a : Nat) : Nat → List Oper → Option Nat
  | _, [] => none
  | j, o :: r => match (match o.dst with | some d => Nat.beq d a | none => false) with
    | true => some j
    | false => writerOf a (j + 1) r
def slotAt (σ : St) (all : List Oper) (t : Nat) : A :=
  match writerOf t 0 all with
  | none => σ.get t
  | some j => match all[j]? with
    | some o => match o.op with
      | .move (.tmp u) => σ.get u
      | _ => .any
    | none => .any
def tgtOf (σ : St) (base : Nat) (all : List Oper) (t : Nat) : Option Nat :=
  match writerOf t 0 all with
  | some j => match all[j]? with
    | some o => match o.op with
      | .indexAddr _ (.tmp x) _ => match slotAt σ all x with
        | .sl id _ => some id
        | _ => none
      | _ => some (base + 16 * j)
    | none => none
  | none => match σ.get t with
    | .ptr id _ => some id
    | .rpt id _ _ _ => some id
    | _ => none
def tgts (σ : St) (base : Nat) (all : List Oper) : Nat → List Oper → List (Nat × Nat)
  | _, [] => []
  | k, o :: r => match isEarly o with
    | false => tgts σ base all (k + 1) r
    | true => match o.op with
      | .store _ (.tmp t) _ => match tgtOf σ base all t with
        | some id => (id, k) :: tgts σ base all (k + 1) r
        | none => tgts σ base all (k + 1) r
      | _ => tgts σ base all (k + 1) r
def before2 (ops : Array Oper) (i e : Nat) : Bool := match ops[e]? with
  | some o => memNat i (afters o) || (afters o).any fun k => waits ops k i
  | none => false
def hide (ops : Array Oper) (k : Nat) : List (Nat × Nat) → (Nat → Option O) → Nat → Option O
  | [], obj => obj
  | p :: r, obj => match before2 ops k p.2 with
    | true => hide ops k r obj
    | false => hide ops k r fun id => match Nat.beq id p.1 with | true => none | false => obj id
def hideK {α : Type} (ops : Array Oper) (k : Nat) : List (Nat × Nat) → (Nat → Option O) → ((Nat → Option O) → α) → α
  | [], obj, f => f obj
  | p :: r, obj, f => match before2 ops k p.2 with
    | true => hideK ops k r obj f
    | false => hideK ops k r (fun id => match Nat.beq id p.1 with | true => none | false => obj id) f
theorem hideK_eq {α : Type} (ops : Array Oper) (k : Nat) (f : (Nat → Option O) → α) : ∀ (S : List (Nat × Nat)) (obj : Nat → Option O), hideK ops k S obj f = f (hide ops k S obj)
  | [], obj => rfl
  | p :: r, obj => by
    simp only [hideK, hide]
    split
    · exact hideK_eq ops k f r obj
    · exact hideK_eq ops k f r _
def memPair (x k : Nat) : List (Nat × Nat) → Bool
  | [] => false
  | p :: r => match Nat.beq x p.1 && Nat.beq k p.2 with | true => true | false => memPair x k r
def dropFst (x : Nat) : List (Nat × Nat) → List (Nat × Nat)
  | [] => []
  | p :: r => match Nat.beq x p.1 with | true => dropFst x r | false => p :: dropFst x r
def headOk (ops : List Oper) (arr : Array Oper) : Bool :=
  let ix := ops.zipIdx
  ix.all fun (o, i) =>
    (match o.dst with
     | some d => ix.all fun (p, j) => Nat.beq i j || (match p.dst with | some d' => !Nat.beq d d' | none => true)
     | none => isEarly o) &&
    (looks arr o).all fun t => ix.all fun (p, j) => match p.dst with
      | some d => !Nat.beq d t || memNat j (afters o)
      | none => true
def headOwn (ops : Array Oper) (d : Nat) : Bool := ops.toList.all fun o => match memNat d (looks ops o) with
  | false => true
  | true => match o.op with
    | .build .. | .assign _ | .store .. => true
    | _ => false
def tgtOk (obj : Nat → Option O) (base0 : Nat) (o : Oper) (id : Nat) : Bool := match obj id with
  | some _ => true
  | none => memNat ((id - base0) / 16) (afters o)
def runHead (cfg : Cfg) (obj : Nat → Option O) (S0 : List (Nat × Nat)) (ops : Array Oper) (base0 : Nat) : Nat → List (Nat × Nat) → Nat → List Oper → Bool → St → Option (Bool × St)
  | _, _, _, [], c, σ => some (c, σ)
  | k, S, base, o :: rest, c, σ => match isEarly o with
    | true => match eStep cfg o σ with
      | some (id, σ') => match memPair id k S && tgtOk obj base0 o id with
        | true => runHead cfg obj S0 ops base0 (k + 1) (dropFst id S) (base + 16) rest c σ'
        | false => none
      | none => none
    | false => hideK ops k S0 obj fun ob => match qStep cfg ob (headOwn ops) base ops o σ with
      | some (c', σ') => runHead cfg obj S0 ops base0 (k + 1) S (base + 16) rest (c' && c) σ'
      | none => none
def pairAt (ops : Array Oper) (p : Nat) : Bool :=
  match ops[p]?, ops[p + 1]? with
  | some o, some o' => match o.op, o'.op, o.dst, o'.dst with
    | .extract (.tmp c) _, .extract (.tmp c') _, some d, some d' => match guardOf ops o, guardOf ops o' with
      | some none, some none => !Nat.beq d d' && !Nat.beq d c' && !Nat.beq d' c
      | _, _ => false
    | _, _, _, _ => false
  | _, _ => false
def tail3Ok (ops : Array Oper) (k : Nat) : Bool :=
  Nat.ble (k + 3) ops.size && pairAt ops (k + 1) && waits ops (k + 1) k && waits ops (k + 2) k && (Nat.beq (k + 3) ops.size || (waits ops (k + 3) (k + 1) && waits ops (k + 3) (k + 2))) &&
  (List.range k).all (fun i => (List.range (k + 1)).any fun j => Nat.blt i j && waits ops j i) &&
  (List.range ops.size).all (fun t => Nat.ble t (k + 3) || waits ops t (t - 1))
def runPair (cfg : Cfg) (ops : Array Oper) (base p : Nat) (σ : St) (go : St → T) : T :=
  match ops[p]?, ops[p + 1]?, σ.grds with
  | some o, some o', [] => match qStep cfg σ.obj (headOwn ops) (base + 16 * p) ops o σ, qStep cfg σ.obj (headOwn ops) (base + 16 * (p + 1)) ops o' σ with
    | some (c, σ1), some (d, τ1) => match qStep cfg σ1.obj (headOwn ops) (base + 16 * (p + 1)) ops o' σ1, qStep cfg τ1.obj (headOwn ops) (base + 16 * p) ops o τ1 with
      | some (c', σ2), some (d', _) => guarded (c && c' && d && d') (go σ2)
      | _, _ => .fail
    | _, _ => .fail
  | _, _, _ => .fail
def run3 (cfg : Cfg) (own : Nat → Bool) (ex : Code → St → T) (ops : Array Oper) (base k : Nat) (σ : St) : T :=
  match ops[k]? with
  | some o => (stepOp cfg own ex (base + 16 * k) ops o σ).bind fun _ σ1 => runPair cfg ops base (k + 1) σ1 fun σ2 => runOps cfg own ex ops (base + 16 * (k + 3)) (ops.toList.drop (k + 3)) σ2
  | none => .fail
def runRegion3 (cfg : Cfg) (own : Nat → Bool) (ex : Code → St → T) (ops : Array Oper) (base k : Nat) (σ : St) : T :=
  let S := tgts σ base (ops.toList.take k) 0 (ops.toList.take k)
  match headOk (ops.toList.take k) ops && tail3Ok ops k && aftersOk ops with
  | true => match runHead cfg σ.obj S ops base 0 S base (ops.toList.take k) true σ with
    | some (c, σ') => guarded c (run3 cfg own ex ops base k σ')
    | none => .fail
  | false => .fail
def runRegion (cfg : Cfg) (own : Nat → Bool) (ex : Code → St → T) (ops : Array Oper) (draw : Bool) (σ0 : St) : T :=
  let base := σ0.next
  let σ : St := { σ0 with next := base + 16 * ops.size }
  match draw with
  | false => runOps cfg own ex ops base ops.toList σ
  | true =>
    let m := tailFrom (Region.before ops).toList ops.size
    let S := tgts σ base (ops.toList.take m) 0 (ops.toList.take m)
    match headOk (ops.toList.take m) ops && tailOk ops m && aftersOk ops with
    | true => match runHead cfg σ.obj S ops base 0 S base (ops.toList.take m) true σ with
      | some (c, σ') => guarded c (runOps cfg own ex ops (base + 16 * m) (ops.toList.drop m) σ')
      | none => runRegion3 cfg own ex ops base (m - 3) σ
    | false => .fail
def onExit (id : Nat) (x : XK) (σ : St) : T :=
  match x with
  | .exit i => match Nat.beq i id with
    | true => .leaf .normal σ
    | false => .leaf (.exit i) σ
  | x => .leaf x σ
def unroll (ex : St → T) : Nat → St → T
  | 0, _ => .fail
  | n + 1, σ => (ex σ).bind fun x σ' => match x with
    | .normal => unroll ex n σ'
    | x => .leaf x σ'
def exec (cfg : Cfg) (own : Nat → Bool) (lp : Nat → Option (St → T)) (un : Nat) : Nat → Code → St → T
  | 0, _, _ => .fail
  | fuel + 1, c, σ => match c with
    | .skip => .leaf .normal σ
    | .region _ ops draw => runRegion cfg own (exec cfg (fun _ => false) (fun _ => none) un fuel) ops draw σ
    | .seq a b => (exec cfg own lp un fuel a σ).bind fun x σ' => match x with
      | .normal => exec cfg own lp un fuel b σ'
      | x => .leaf x σ'
    | .cond o a b => match opd σ.get o with
      | .bool t => .ite t (exec cfg own lp un fuel a σ) (exec cfg own lp un fuel b σ)
      | _ => .fail
    | .block id body => match lp id with
      | some f => f σ
      | none => (exec cfg own lp un fuel body σ).bind (onExit id)
    | .loop body => match un with
      | 0 => .loop body σ .leaf
      | n + 1 => unroll (exec cfg own lp un fuel body) (n + 1) σ
    | .exit id => .leaf (.exit id) σ
    | .ret => .leaf .ret σ
    | _ => .fail
def blocksOf : Code → List (Nat × Code)
  | .seq a b => blocksOf a ++ blocksOf b
  | .cond _ a b => blocksOf a ++ blocksOf b
  | .block id b => (id, b) :: blocksOf b
  | .loop b => blocksOf b
  | _ => []
def T.read (cfg : Cfg) (fn : Func) : T → Option A
  | .leaf x σ => match x with
    | .normal | .ret => retVal cfg fn σ
    | .exit _ => none
  | .ite b t e => cond b (t.read cfg fn) (e.read cfg fn)
  | .fail => none
  | .loop .. => none
end Go.Fw

/-
  Canonical floats against the model's: what each operation on bits gives is, up to the bits of a NaN, what the
  canonical operation gives on the canonical operands.
-/
namespace Go.Fw
open Ieee
theorem binade_le (k : FloatKind) : k.format.binade ≤ k.format.infRung := by cases k <;> decide
theorem inf_lt (k : FloatKind) : k.format.infRung < k.format.signWeight := Format.infRung_lt _
theorem isNaN_eq (k : FloatKind) (b : Nat) : isNaN k b = decide (k.format.infRung < b % k.format.signWeight) := by
  have hb := binade_le k
  unfold isNaN FloatKind.decode Format.read
  simp only
  split
  · rename_i h; simp [Datum.isNaN]; omega
  · split
    · rename_i h; simp [Datum.isNaN]; omega
    · split
      · rename_i h; simp [Datum.isNaN]; omega
      · simp [Datum.isNaN]; omega
theorem isNaN_word (k : FloatKind) (neg : Bool) (r : Nat) (h : r ≤ k.format.infRung) : isNaN k (k.format.word neg r) = false := by
  have hi := inf_lt k
  rw [isNaN_eq]
  have : k.format.word neg r % k.format.signWeight = r := by
    unfold Format.word
    split
    · rw [Nat.add_mod_left]; exact Nat.mod_eq_of_lt (by omega)
    · exact Nat.mod_eq_of_lt (by omega)
  rw [this]; simp; omega
theorem isNaN_nearest (k : FloatKind) (neg : Bool) (m : Nat) (p : Int) : isNaN k (k.format.nearest neg m p) = false := by
  unfold Format.nearest
  dsimp only
  split
  · exact isNaN_word k neg 0 (Nat.zero_le _)
  · exact isNaN_word k neg _ (Nat.min_le_right ..)
theorem isNaN_write (k : FloatKind) (d : Datum) (h : d.isNaN = false) : isNaN k (k.format.write d) = false := by
  cases d with
  | number s m e => exact isNaN_nearest k s m e
  | infinity s => exact isNaN_word k s _ (Nat.le_refl _)
  | nan s t => simp [Datum.isNaN] at h
theorem qnan_isNaN (k : FloatKind) : isNaN k (qnan k) = true := by cases k <;> decide
theorem can_of_nan {k : FloatKind} {b : Nat} (h : isNaN k b = true) : can k b = qnan k := by simp [can, h]
theorem can_of_not {k : FloatKind} {b : Nat} (h : isNaN k b = false) : can k b = b := by simp [can, h]
theorem isNaN_can (k : FloatKind) (b : Nat) : isNaN k (can k b) = isNaN k b := by
  cases h : isNaN k b
  · rw [can_of_not h, h]
  · rw [can_of_nan h, qnan_isNaN]
def FR (k : FloatKind) (b n : Nat) : Prop := (Lit.float k b).wf = true ∧ can k b = n
theorem FR.wf {k b n} (h : FR k b n) : (Lit.float k b).wf = true := h.1
theorem FR.nan {k b n} (h : FR k b n) : isNaN k n = isNaN k b := by rw [← h.2, isNaN_can]
theorem FR.eq {k b n} (h : FR k b n) (hn : isNaN k n = false) : b = n := by
  have : isNaN k b = false := by rw [← h.nan]; exact hn
  rw [← h.2, can_of_not this]
theorem FR.of_not {k b} (hw : (Lit.float k b).wf = true) (h : isNaN k b = false) : FR k b b := ⟨hw, can_of_not h⟩
theorem FR.of_nan {k b} (hw : (Lit.float k b).wf = true) (h : isNaN k b = true) : FR k b (qnan k) := ⟨hw, can_of_nan h⟩
theorem FR.mk {k b} (hw : (Lit.float k b).wf = true) : FR k b (can k b) := ⟨hw, rfl⟩
theorem decode_nan {k : FloatKind} {b : Nat} (h : isNaN k b = true) : ∃ s t, k.format.read b = .nan s t := by
  unfold isNaN FloatKind.decode at h
  cases hd : k.format.read b <;> simp [hd, Datum.isNaN] at h
  exact ⟨_, _, rfl⟩
theorem sum_nan_left (s : Bool) (t : Nat) (d : Datum) : Datum.sum (.nan s t) d = none := by cases d <;> rfl
theorem sum_nan_right (s : Bool) (t : Nat) (d : Datum) : Datum.sum d (.nan s t) = none := by cases d <;> rfl
theorem product_nan_left (s : Bool) (t : Nat) (d : Datum) : Datum.product (.nan s t) d = none := by cases d <;> rfl
theorem product_nan_right (s : Bool) (t : Nat) (d : Datum) : Datum.product d (.nan s t) = none := by cases d <;> rfl
theorem quotient_nan_left (n : Nat) (s : Bool) (t : Nat) (d : Datum) : Datum.quotient n (.nan s t) d = none := by cases d <;> rfl
theorem quotient_nan_right (n : Nat) (s : Bool) (t : Nat) (d : Datum) : Datum.quotient n d (.nan s t) = none := by cases d <;> rfl
theorem order_nan_left (s : Bool) (t : Nat) (d : Datum) : Datum.order (.nan s t) d = none := by cases d <;> rfl
theorem order_nan_right (s : Bool) (t : Nat) (d : Datum) : Datum.order d (.nan s t) = none := by cases d <;> rfl
theorem floatBits_nan_left (op : BinOp) (k : FloatKind) (x y : Nat) (h : isNaN k x = true) : floatBits op k x y = none := by
  obtain ⟨s, t, hd⟩ := decode_nan h
  cases op <;> simp [floatBits, Format.add, Format.sub, Format.mul, Format.div, hd, sum_nan_left, product_nan_left, quotient_nan_left]
theorem floatBits_nan_right (op : BinOp) (k : FloatKind) (x y : Nat) (h : isNaN k y = true) : floatBits op k x y = none := by
  obtain ⟨s, t, hd⟩ := decode_nan h
  cases op <;> simp [floatBits, Format.add, Format.sub, Format.mul, Format.div, hd, sum_nan_right, product_nan_right, quotient_nan_right, Datum.opposite]
theorem floatBits_FR (op : BinOp) {k : FloatKind} {a b x y : Nat} (ha : FR k a x) (hb : FR k b y) : floatBits op k a b = floatBits op k x y := by
  cases hx : isNaN k x
  · cases hy : isNaN k y
    · rw [ha.eq hx, hb.eq hy]
    · rw [floatBits_nan_right op k _ _ hy, floatBits_nan_right op k _ _ (by rw [← hb.nan]; exact hy)]
  · rw [floatBits_nan_left op k _ _ hx, floatBits_nan_left op k _ _ (by rw [← ha.nan]; exact hx)]
theorem order_FR {k : FloatKind} {a b x y : Nat} (ha : FR k a x) (hb : FR k b y) : k.format.order a b = forder k x y := by
  unfold forder Format.order
  cases hx : isNaN k x
  · cases hy : isNaN k y
    · rw [ha.eq hx, hb.eq hy]
    · obtain ⟨s, t, hd⟩ := decode_nan hy
      obtain ⟨s', t', hd'⟩ := decode_nan (k := k) (b := b) (by rw [← hb.nan]; exact hy)
      rw [hd, hd', order_nan_right, order_nan_right]
  · obtain ⟨s, t, hd⟩ := decode_nan hx
    obtain ⟨s', t', hd'⟩ := decode_nan (k := k) (b := a) (by rw [← ha.nan]; exact hx)
    rw [hd, hd', order_nan_left, order_nan_left]
theorem sum_notNaN {d e r : Datum} (h : Datum.sum d e = some r) : r.isNaN = false := by
  cases d <;> cases e <;> simp [Datum.sum] at h <;> first | (subst h; rfl) | (obtain ⟨_, h⟩ := h; subst h; rfl)
theorem product_notNaN {d e r : Datum} (h : Datum.product d e = some r) : r.isNaN = false := by
  cases d <;> cases e <;> simp [Datum.product] at h <;> first | (subst h; rfl) | (obtain ⟨_, h⟩ := h; subst h; rfl)
theorem quotient_notNaN {n : Nat} {d e r : Datum} (h : Datum.quotient n d e = some r) : r.isNaN = false := by
  cases d <;> cases e <;> simp only [Datum.quotient] at h <;> (try split at h) <;> (try split at h) <;> first | (cases h; done) | (injection h with h; subst h; rfl)
theorem root_notNaN {n : Nat} {d r : Datum} (h : Datum.root n d = some r) : r.isNaN = false := by
  cases d <;> simp only [Datum.root] at h <;> (try split at h) <;> (try split at h) <;> first | (cases h; done) | (injection h with h; subst h; rfl)
theorem map_write {k : FloatKind} {o : Option Datum} {r : Nat} (h : o.map k.format.write = some r) (hn : ∀ d, o = some d → d.isNaN = false) : isNaN k r = false := by
  cases o with
  | none => simp at h
  | some d => simp at h; subst h; exact isNaN_write k d (hn d rfl)
theorem floatBits_notNaN {op : BinOp} {k : FloatKind} {x y r : Nat} (h : floatBits op k x y = some r) : isNaN k r = false := by
  unfold floatBits at h
  split at h
  · exact map_write h fun d hd => sum_notNaN hd
  · exact map_write h fun d hd => sum_notNaN hd
  · exact map_write h fun d hd => product_notNaN hd
  · exact map_write h fun d hd => quotient_notNaN hd
  · cases h
theorem nanCut (k : FloatKind) (q : Question) (t : Nat) (hq : (∃ x y, q = .nanBits k x y) ∨ (∃ b, q = .nanConv k b)) :
    FR k (q.cut t) (qnan k) := by
  have key : (Lit.float k (q.cut t)).wf = true ∧ isNaN k (q.cut t) = true := by
    rw [isNaN_eq]
    cases k
    · have hq' : q.cut t = (t % 2) * 2 ^ 31 + 0x7f800000 + 1 + (t / 2) % (2 ^ 23 - 1) := by
        rcases hq with ⟨x, y, rfl⟩ | ⟨b, rfl⟩ <;> rfl
      rw [hq']
      have h1 : FloatKind.f32.format.infRung = 2139095040 := by decide
      have h2 : FloatKind.f32.format.signWeight = 2147483648 := by decide
      rw [h1, h2]
      simp only [Lit.wf, decide_eq_true_eq]
      have hm := Nat.mod_lt (t / 2) (show 0 < 2 ^ 23 - 1 by decide)
      generalize t / 2 % (2 ^ 23 - 1) = m at hm
      rcases Nat.mod_two_eq_zero_or_one t with h | h <;> rw [h] <;> omega
    · have hq' : q.cut t = (t % 2) * 2 ^ 63 + 0x7ff0000000000000 + 1 + (t / 2) % (2 ^ 52 - 1) := by
        rcases hq with ⟨x, y, rfl⟩ | ⟨b, rfl⟩ <;> rfl
      rw [hq']
      have h1 : FloatKind.f64.format.infRung = 9218868437227405312 := by decide
      have h2 : FloatKind.f64.format.signWeight = 9223372036854775808 := by decide
      rw [h1, h2]
      simp only [Lit.wf, decide_eq_true_eq]
      have hm := Nat.mod_lt (t / 2) (show 0 < 2 ^ 52 - 1 by decide)
      generalize t / 2 % (2 ^ 52 - 1) = m at hm
      rcases Nat.mod_two_eq_zero_or_one t with h | h <;> rw [h] <;> omega
  exact FR.of_nan key.1 key.2
theorem forced_nan (k : FloatKind) (x y : Nat) : (Question.nanBits k x y).forced = false := rfl
theorem forced_conv (k : FloatKind) (x : Nat) : (Question.nanConv k x).forced = false := rfl
theorem nanCutM (k : FloatKind) (m : Bool) (x y t : Nat) : FR k ((Question.nanMinMax k m x y).cut t) (qnan k) := by
  have e : (Question.nanMinMax k m x y).cut t = (Question.nanConv k 0).cut t := by cases k <;> rfl
  rw [e]; exact nanCut k _ t (.inr ⟨_, rfl⟩)
theorem forced_minMax (k : FloatKind) (m : Bool) (x y : Nat) : (Question.nanMinMax k m x y).forced = false := rfl
def Drew (w w' : World) : Prop := w' = w ∨ w' = w.drew
theorem run_floatArith {P : Program} {w : World} {op : BinOp} {k : FloatKind} {a b x y : Nat} (ha : FR k a x) (hb : FR k b y)
    (hop : op = .add ∨ op = .sub ∨ op = .mul ∨ op = .quo) :
    ∃ r w', (Op.floatArith op k a b).run P w = .ok (.float k r) w' ∧ Drew w w' ∧ FR k r (fop op k x y) := by
  have hfb := floatBits_FR op ha hb
  unfold fop
  rw [← hfb]
  have hrun : ∀ o : Option Nat, floatBits op k a b = o → (Op.floatArith op k a b).run P w = (match o with
      | some r => (pure (.float k r) : Sem Value)
      | none => do pure (.float k (← choose (.nanBits k a b)))).run P w := by
    intro o ho
    rcases hop with rfl | rfl | rfl | rfl <;> (simp only [floatBits] at ho; subst ho; simp only [Op.floatArith]; rfl)
  cases ho : floatBits op k a b with
  | some r => exact ⟨r, w, by rw [hrun _ ho]; rfl, .inl rfl, FR.of_not (floatBits_wf ho) (floatBits_notNaN ho)⟩
  | none =>
    refine ⟨(Question.nanBits k a b).cut (w.tape w.drawn (.nanBits k a b)), w.drew, ?_, .inr rfl, nanCut k _ _ (.inl ⟨_, _, rfl⟩)⟩
    rw [hrun _ ho]
    simp [forced_nan]
theorem forder_ne_nan {k : FloatKind} {x y : Nat} {o : Ordering} (h : forder k x y = some o) : isNaN k x = false ∧ isNaN k y = false := by
  unfold forder Format.order at h
  constructor
  · cases hx : isNaN k x
    · rfl
    · obtain ⟨s, t, hd⟩ := decode_nan hx
      rw [hd, order_nan_left] at h; cases h
  · cases hy : isNaN k y
    · rfl
    · obtain ⟨s, t, hd⟩ := decode_nan hy
      rw [hd, order_nan_right] at h; cases h
theorem run_fmax {P : Program} {w : World} {k : FloatKind} {a b x y : Nat} (ha : FR k a x) (hb : FR k b y) :
    ∃ r w', (Builtin.max2 (.float k a) (.float k b)).run P w = .ok (.float k r) w' ∧ Drew w w' ∧ FR k r (fmax k x y) := by
  have ho := order_FR ha hb
  unfold fmax
  cases h : forder k x y with
  | none =>
    refine ⟨(Question.nanMinMax k true a b).cut (w.tape w.drawn (.nanMinMax k true a b)), w.drew, ?_, .inr rfl, nanCutM k _ _ _ _⟩
    simp only [Builtin.max2, ho, h]
    simp [forced_minMax]
  | some o =>
    obtain ⟨hx, hy⟩ := forder_ne_nan h
    have ea := ha.eq hx
    have eb := hb.eq hy
    have fx : FR k x x := by have := ha; rw [ea] at this; exact this
    have fy : FR k y y := by have := hb; rw [eb] at this; exact this
    subst ea eb
    cases o with
    | lt => exact ⟨b, w, by simp only [Builtin.max2, ho, h]; rfl, .inl rfl, fy⟩
    | gt => exact ⟨a, w, by simp only [Builtin.max2, ho, h]; rfl, .inl rfl, fx⟩
    | eq =>
      cases hn : (k.decode a).neg
      · exact ⟨a, w, by simp only [Builtin.max2, ho, h, hn]; rfl, .inl rfl, fx⟩
      · exact ⟨b, w, by simp only [Builtin.max2, ho, h, hn]; rfl, .inl rfl, fy⟩
theorem fcvt_nan {s d : FloatKind} {x : Nat} (h : isNaN s x = true) : fcvt s d x = qnan d := by
  obtain ⟨g, t, hd⟩ := decode_nan h
  simp [fcvt, FloatKind.decode, hd]
theorem widen_ok (x : Nat) : fcvtOk .f32 .f64 x = true := by
  unfold fcvtOk
  split
  · rename_i g m e hd
    have hm : m < 2 ^ 24 ∧ -149 ≤ e ∧ e ≤ 104 := by
      unfold FloatKind.decode Format.read at hd
      simp only at hd
      have hbin : FloatKind.f32.format.binade = 8388608 := by decide
      have hlp : FloatKind.f32.format.leastPlace = -149 := by decide
      have hinf : FloatKind.f32.format.infRung = 2139095040 := by decide
      rw [hbin, hlp, hinf] at hd
      split at hd
      · rename_i hlt; injection hd with _ h2 h3; omega
      · split at hd
        · rename_i hlt
          injection hd with _ h2 h3
          have : x % FloatKind.f32.format.signWeight / 8388608 - 1 ≤ 253 := by omega
          omega
        · split at hd <;> cases hd
    unfold FloatKind.decode FloatKind.encode
    have hinf : FloatKind.f64.format.infRung = 9218868437227405312 := by decide
    have key : ∃ neg r, FloatKind.f64.format.write (.number g m e) = FloatKind.f64.format.word neg r ∧ r < FloatKind.f64.format.infRung := by
      show ∃ neg r, FloatKind.f64.format.nearest g m e = _ ∧ _
      unfold Format.nearest
      dsimp only
      split
      · exact ⟨g, 0, rfl, by rw [hinf]; omega⟩
      · rename_i hm0
        refine ⟨g, _, rfl, ?_⟩
        refine Nat.lt_of_le_of_lt (Nat.min_le_left _ _) ?_
        have hlog : m.log2 < 24 := (Nat.log2_lt hm0).2 hm.1
        have hfb : FloatKind.f64.format.fractionBits = 52 := rfl
        have hlp : FloatKind.f64.format.leastPlace = -1074 := by decide
        have hbin : FloatKind.f64.format.binade = 4503599627370496 := by decide
        rw [hfb, hlp, hbin, hinf]
        have hlast : max (e + (m.log2 : Int) - ((52 : Nat) : Int)) (-1074) = e + m.log2 - 52 := by omega
        rw [hlast]
        have hshift : (e - (e + (m.log2 : Int) - 52)).toNat = 52 - m.log2 := by omega
        have hdrop : (e + (m.log2 : Int) - 52 - e).toNat = 0 := by omega
        rw [hshift, hdrop]
        have hcut : Toward.even.cut g (m <<< (52 - m.log2)) 0 = m <<< (52 - m.log2) := by
          unfold Toward.cut
          simp [Nat.mod_one]
        rw [hcut, Nat.shiftLeft_eq]
        have h1 : m < 2 ^ (m.log2 + 1) := Nat.lt_log2_self
        have h2 : m * 2 ^ (52 - m.log2) < 2 ^ (m.log2 + 1) * 2 ^ (52 - m.log2) := Nat.mul_lt_mul_of_pos_right h1 (Nat.two_pow_pos _)
        rw [← Nat.pow_add, show m.log2 + 1 + (52 - m.log2) = 53 by omega] at h2
        have h3 : (e + (m.log2 : Int) - 52 - -1074).toNat ≤ 1149 := by omega
        have h4 := Nat.mul_le_mul_right 4503599627370496 h3
        have : (2 : Nat) ^ 53 = 9007199254740992 := by decide
        omega
    obtain ⟨neg, r, hw, hr⟩ := key
    rw [hw]
    have hi := inf_lt .f64
    have hmod : FloatKind.f64.format.word neg r % FloatKind.f64.format.signWeight = r := by
      unfold Format.word
      split
      · rw [Nat.add_mod_left]; exact Nat.mod_eq_of_lt (by omega)
      · exact Nat.mod_eq_of_lt (by omega)
    have : (FloatKind.f64.format.read (FloatKind.f64.format.word neg r)).isInfinity = false := by
      unfold Format.read
      simp only [hmod]
      split
      · rfl
      · first | rfl | (split <;> first | rfl | omega) | (rw [if_pos hr]; rfl)
    simp [this]
  · rfl
theorem run_floatToFloat {P : Program} {w : World} {s d : FloatKind} {b x : Nat} (h : FR s b x) (hok : fcvtOk s d x = true) (hne : s ≠ d) :
    ∃ r w', (Conv.floatToFloat s b d).run P w = .ok (.float d r) w' ∧ Drew w w' ∧ FR d r (fcvt s d x) := by
  cases hx : isNaN s x
  · have e := h.eq hx
    subst e
    unfold Conv.floatToFloat fcvt
    rw [if_neg hne]
    unfold fcvtOk at hok
    cases hd : s.decode b with
    | nan g t => simp [isNaN, hd, Datum.isNaN] at hx
    | infinity g =>
      exact ⟨_, w, rfl, .inl rfl, FR.of_not (encode_wf d _) (isNaN_write d _ rfl)⟩
    | number g m e =>
      rw [hd] at hok
      simp only [Bool.not_eq_true'] at hok
      refine ⟨_, w, ?_, .inl rfl, FR.of_not (encode_wf d _) (isNaN_write d _ rfl)⟩
      simp [hok]
  · rw [fcvt_nan hx]
    obtain ⟨g, t, hd⟩ := decode_nan (k := s) (b := b) (by rw [← h.nan]; exact hx)
    refine ⟨(Question.nanConv d b).cut (w.tape w.drawn (.nanConv d b)), w.drew, ?_, .inr rfl, nanCut d _ _ (.inr ⟨_, rfl⟩)⟩
    unfold Conv.floatToFloat
    rw [if_neg hne]
    have : s.decode b = .nan g t := hd
    rw [this]
    simp [forced_conv]
theorem run_sqrt {P : Program} {w : World} {b x : Nat} (h : FR .f64 b x) :
    ∃ r w', (Extern.MathSqrt.sqrt #[.float .f64 b]).run P w = .ok (.float .f64 r) w' ∧ Drew w w' ∧ FR .f64 r (fsqrt x) := by
  have hs : FloatKind.f64.format.sqrt b = FloatKind.f64.format.sqrt x := by
    cases hx : isNaN .f64 x
    · rw [h.eq hx]
    · obtain ⟨g, t, hd⟩ := decode_nan hx
      obtain ⟨g', t', hd'⟩ := decode_nan (k := .f64) (b := b) (by rw [← h.nan]; exact hx)
      simp [Format.sqrt, hd, hd', Datum.root]
  have hrun : ∀ o : Option Nat, FloatKind.f64.format.sqrt b = o → (Extern.MathSqrt.sqrt #[.float .f64 b]).run P w = (match o with
      | some r => (pure (.float .f64 r) : Sem Value)
      | none => do pure (.float .f64 (← choose (.nanBits .f64 b b)))).run P w := by
    intro o ho
    subst ho
    rfl
  unfold fsqrt
  rw [← hs]
  cases ho : FloatKind.f64.format.sqrt b with
  | some r =>
    refine ⟨r, w, by rw [hrun _ ho]; rfl, .inl rfl, FR.of_not (wf_of_lt .f64 _ (Format.sqrt_lt _ ho)) (map_write (k := .f64) ho fun d hd => root_notNaN hd)⟩
  | none =>
    refine ⟨(Question.nanBits .f64 b b).cut (w.tape w.drawn (.nanBits .f64 b b)), w.drew, ?_, .inr rfl, nanCut .f64 _ _ (.inl ⟨_, _, rfl⟩)⟩
    rw [hrun _ ho]
    simp [forced_nan]
theorem negFloat_mod (k : FloatKind) (b : Nat) : Op.negFloat k b % k.format.signWeight = b % k.format.signWeight := by
  unfold Op.negFloat Format.signWeight
  rw [Nat.xor_mod_two_pow, Nat.mod_self, Nat.xor_zero]
theorem negFloat_wf {k : FloatKind} {b : Nat} (h : (Lit.float k b).wf = true) : (Lit.float k (Op.negFloat k b)).wf = true := by
  cases k
  · simp only [Lit.wf, decide_eq_true_eq] at h ⊢
    exact Nat.xor_lt_two_pow h (by decide)
  · simp only [Lit.wf, decide_eq_true_eq] at h ⊢
    exact Nat.xor_lt_two_pow h (by decide)
theorem negFloat_FR {k : FloatKind} {b x : Nat} (h : FR k b x) : FR k (Op.negFloat k b) (fneg k x) := by
  unfold fneg
  cases hx : isNaN k x
  · have e := h.eq hx
    subst e
    exact FR.of_not (negFloat_wf h.wf) (by rw [isNaN_eq, negFloat_mod, ← isNaN_eq]; exact hx)
  · exact FR.of_nan (negFloat_wf h.wf) (by rw [isNaN_eq, negFloat_mod, ← isNaN_eq, ← h.nan]; exact hx)
theorem fofInt_FR (k : FloatKind) (n : Int) : FR k (k.nearest n) (fofInt k n) := FR.of_not (encode_wf k _) (isNaN_nearest k _ _ _)
theorem ftoInt_FR {s : FloatKind} {b x : Nat} {d : IntKind} (h : FR s b x) (hok : ftoIntOk s x d = true) : floatToIntVal s b d = some (ftoInt s x d) := by
  have hx : isNaN s x = false := by
    cases hx : isNaN s x
    · rfl
    · obtain ⟨g, t, hd⟩ := decode_nan hx
      simp [ftoIntOk, floatToIntVal, FloatKind.decode, hd, Datum.toInt, Datum.integral] at hok
  rw [h.eq hx]
  unfold ftoIntOk at hok
  unfold ftoInt
  cases ho : floatToIntVal s x d with
  | none => simp [ho] at hok
  | some n => rfl
end Go.Fw

/-
  How abstract values stand to the model's: the relation, and that it lasts while memory grows.
-/
namespace Go.Fw
open Go.RowKit (Below)
theorem flat_cells {x : A} (h : x.flat = true) : x.cells = [x] := by cases x <;> first | rfl | (simp [A.flat] at h)
inductive RelD (w : World) (S : Nat → Prop) : Value → A → Prop
  | bool (b) : RelD w S (.bool b) (.bool b)
  | int (k n) : RelD w S (.int k n) (.int k n)
  | flt {k b n} (h : FR k b n) : RelD w S (.float k b) (.flt k n)
  | cpx {k a b n m} (h : FR k a n) (h' : FR k b m) : RelD w S (.complex k a b) (.cpx k n m)
  | nilp : RelD w S (.pointer none) .nilp
  | emp (a) : RelD w S (.slice a 0 0) .emp
  | nils : RelD w S (.slice none 0 0) .nils
  | agg {vs : Array Value} {cs : List A} (hs : vs.size = cs.length) (h : ∀ i, i < cs.length → RelD w S (vs.getD i undef) (cs.getD i .any)) : RelD w S (.agg vs) (.agg cs)
  | tup {vs : Array Value} {cs : List A} (hs : vs.size = cs.length) (h : ∀ i, i < cs.length → RelD w S (vs.getD i undef) (cs.getD i .any)) : RelD w S (.tuple vs) (.tup cs)
  | rop {b o off : Nat} {d : A} (f : Nat → Value) (hS : S b) (hc : ∀ j, j < d.cells.length → w.cell? ⟨b, o + j, none⟩ = some (f j))
      (h : ∀ j, j < d.cells.length → RelD w S (f j) (d.cells.getD j .any)) : RelD w S (.pointer (some ⟨b, o + off, none⟩)) (.rop d off)
  | ro {a : Option Addr} {cap esz len : Nat} {get : Row A} {b o : Nat} (hk : len ≤ cap) (f : Nat → Nat → Value) (ha : 0 < len → a = some ⟨b, o, none⟩ ∧ S b)
      (hz : ∀ i, i < len → (get i).cells.length = esz)
      (hc : ∀ i j, i < len → j < esz → w.cell? ⟨b, o + (i * esz + j), none⟩ = some (f i j))
      (hf : ∀ i j, i < len → j < esz → ((get i).cells.getD j .any).flat = true)
      (h : ∀ i j, i < len → j < esz → RelD w S (f i j) ((get i).cells.getD j .any)) : RelD w S (.slice a len cap) (.ro esz len get)
  | fn {f : Nat} {vs : Array Value} {cs : List A} (hs : vs.size = cs.length) (h : ∀ i, i < cs.length → RelD w S (vs.getD i undef) (cs.getD i .any)) : RelD w S (.func (.func f) #[] vs) (.fn f cs)
theorem RelD.mono {w w' : World} {S S' : Nat → Prop} {v : Value} {a : A} (h : RelD w S v a)
    (hS : ∀ b, S b → S' b ∧ w'.heap[b]? = w.heap[b]?) : RelD w' S' v a := by
  induction h with
  | bool b => exact .bool b
  | int k n => exact .int k n
  | flt h => exact .flt h
  | cpx h h' => exact .cpx h h'
  | nilp => exact .nilp
  | emp a => exact .emp a
  | nils => exact .nils
  | agg hs h ih => exact .agg hs ih
  | tup hs h ih => exact .tup hs ih
  | rop f hb hc h ih => exact .rop f (hS _ hb).1 (fun j hj => (World.cell?_of_block (w := w) (hS _ hb).2).trans (hc j hj)) ih
  | ro hk f ha hz hc hf h ih =>
    exact .ro hk f (fun h0 => ⟨(ha h0).1, (hS _ (ha h0).2).1⟩) hz (fun i j hi hj => (World.cell?_of_block (w := w) (hS _ (ha (by omega)).2).2).trans (hc i j hi hj)) hf ih
  | fn hs h ih => exact .fn hs ih
def blk : Value → Option Nat
  | .pointer (some a) => some a.block
  | .slice (some a) _ _ => some a.block
  | _ => none
def Sy (w : World) (cv : Nat → Option Value) (b : Nat) : Prop := b < w.heap.size ∧ ∀ id u, cv id = some u → blk u ≠ some b
class XS where
  Bx : Nat
  X : Nat → Prop
variable [XS]
def Sx (w : World) (cv : Nat → Option Value) (b : Nat) : Prop := b < w.heap.size ∧ (∀ id u, cv id = some u → blk u ≠ some b) ∧ (XS.Bx ≤ b ∨ XS.X b)
inductive RelS (w : World) (S : Nat → Prop) (cv : Nat → Option Value) : Value → A → Prop
  | any (v) : RelS w S cv v .any
  | data {v a} (h : RelD w S v a) : RelS w S cv v a
  | agg {vs : Array Value} {cs : List A} (hs : vs.size = cs.length) (h : ∀ i, i < cs.length → RelS w S cv (vs.getD i undef) (cs.getD i .any)) : RelS w S cv (.agg vs) (.agg cs)
  | tup {vs : Array Value} {cs : List A} (hs : vs.size = cs.length) (h : ∀ i, i < cs.length → RelS w S cv (vs.getD i undef) (cs.getD i .any)) : RelS w S cv (.tuple vs) (.tup cs)
  | fn {f : Nat} {vs : Array Value} {cs : List A} (hs : vs.size = cs.length) (h : ∀ i, i < cs.length → RelS w S cv (vs.getD i undef) (cs.getD i .any)) : RelS w S cv (.func (.func f) #[] vs) (.fn f cs)
  | ptr {v id off} (h : ∀ u, cv id = some u → ∃ b, u = .pointer (some ⟨b, 0, none⟩) ∧ v = .pointer (some ⟨b, off, none⟩)) : RelS w S cv v (.ptr id off)
  | rpt {v id esz i off} (h : ∀ u, cv id = some u → ∃ b l c, u = .slice (some ⟨b, 0, none⟩) l c ∧ i < l ∧ v = .pointer (some ⟨b, i * esz + off, none⟩)) : RelS w S cv v (.rpt id esz i off)
  | sl {v id len} (h : ∀ u, cv id = some u → v = u ∧ ∃ a c, u = .slice a len c) : RelS w S cv v (.sl id len)
abbrev Rel (w : World) (cv : Nat → Option Value) (v : Value) (a : A) : Prop := RelS w (Sx w cv) cv v a
omit [XS] in
theorem hasAny_getD {id : Nat} : ∀ {cs : List A} {i : Nat}, (cs.getD i .any).has id = true → A.hasAny id cs = true
  | [], i, h => by simp [A.has] at h
  | x :: r, 0, h => by simp [A.hasAny] at h ⊢; simp [h]
  | x :: r, i + 1, h => by
    have := hasAny_getD (cs := r) (i := i) (by simpa using h)
    simp only [A.hasAny]
    cases x.has id <;> simp [this]
omit [XS] in
theorem hasAny_false {id : Nat} : ∀ {cs : List A}, (∀ i, i < cs.length → (cs.getD i .any).has id = false) → A.hasAny id cs = false
  | [], _ => rfl
  | x :: r, h => by
    have h0 := h 0 (by simp)
    simp only [List.getD_cons_zero] at h0
    simp only [A.hasAny, h0]
    exact hasAny_false fun i hi => by have := h (i + 1) (by simpa using hi); simpa using this
omit [XS] in
theorem RelD.noHas {w : World} {S : Nat → Prop} {v : Value} {a : A} (h : RelD w S v a) (id : Nat) : a.has id = false := by
  induction h with
  | agg hs h ih => simp only [A.has]; exact hasAny_false ih
  | tup hs h ih => simp only [A.has]; exact hasAny_false ih
  | fn hs h ih => simp only [A.has]; exact hasAny_false ih
  | _ => rfl
omit [XS] in
theorem RelS.mono {w w' : World} {S S' : Nat → Prop} {cv cv' : Nat → Option Value} {v : Value} {a : A} (h : RelS w S cv v a)
    (hS : ∀ b, S b → S' b ∧ w'.heap[b]? = w.heap[b]?) (hcv : ∀ id, a.has id = true → cv' id = none ∨ cv' id = cv id) : RelS w' S' cv' v a := by
  induction h with
  | any v => exact .any v
  | data h => exact .data (h.mono hS)
  | agg hs h ih => exact .agg hs fun i hi => ih i hi fun id hid => hcv id (by simpa [A.has] using hasAny_getD hid)
  | tup hs h ih => exact .tup hs fun i hi => ih i hi fun id hid => hcv id (by simpa [A.has] using hasAny_getD hid)
  | fn hs h ih => exact .fn hs fun i hi => ih i hi fun id hid => hcv id (by simpa [A.has] using hasAny_getD hid)
  | @ptr v id off h =>
    refine .ptr fun u hu => ?_
    rcases hcv id (by simp [A.has]) with h' | h'
    · rw [h'] at hu; cases hu
    · exact h u (h' ▸ hu)
  | @rpt v id esz i off h =>
    refine .rpt fun u hu => ?_
    rcases hcv id (by simp [A.has]) with h' | h'
    · rw [h'] at hu; cases hu
    · exact h u (h' ▸ hu)
  | @sl v id len h =>
    refine .sl fun u hu => ?_
    rcases hcv id (by simp [A.has]) with h' | h'
    · rw [h'] at hu; cases hu
    · exact h u (h' ▸ hu)
section
variable {w : World} {cv : Nat → Option Value} {v : Value}
theorem Rel.bool_inv {b} (h : Rel w cv v (.bool b)) : v = .bool b := by cases h with | data h => cases h; rfl
theorem Rel.int_inv {k n} (h : Rel w cv v (.int k n)) : v = .int k n := by cases h with | data h => cases h; rfl
theorem Rel.flt_inv {k n} (h : Rel w cv v (.flt k n)) : ∃ b, v = .float k b ∧ FR k b n := by cases h with | data h => cases h with | flt h => exact ⟨_, rfl, h⟩
theorem Rel.cpx_inv {k n m} (h : Rel w cv v (.cpx k n m)) : ∃ a b, v = .complex k a b ∧ FR k a n ∧ FR k b m := by
  cases h with | data h => cases h with | cpx h h' => exact ⟨_, _, rfl, h, h'⟩
theorem Rel.emp_inv (h : Rel w cv v .emp) : ∃ a, v = .slice a 0 0 := by cases h with | data h => cases h with | emp a => exact ⟨a, rfl⟩
theorem Rel.nils_inv (h : Rel w cv v .nils) : v = .slice none 0 0 := by cases h with | data h => cases h; rfl
theorem Rel.agg_inv {cs} (h : Rel w cv v (.agg cs)) : ∃ vs : Array Value, v = .agg vs ∧ vs.size = cs.length ∧ ∀ i, i < cs.length → Rel w cv (vs.getD i undef) (cs.getD i .any) := by
  cases h with
  | data h => cases h with | agg hs h => exact ⟨_, rfl, hs, fun i hi => .data (h i hi)⟩
  | agg hs h => exact ⟨_, rfl, hs, h⟩
theorem Rel.tup_inv {cs} (h : Rel w cv v (.tup cs)) : ∃ vs : Array Value, v = .tuple vs ∧ vs.size = cs.length ∧ ∀ i, i < cs.length → Rel w cv (vs.getD i undef) (cs.getD i .any) := by
  cases h with
  | data h => cases h with | tup hs h => exact ⟨_, rfl, hs, fun i hi => .data (h i hi)⟩
  | tup hs h => exact ⟨_, rfl, hs, h⟩
theorem Rel.fn_inv {f cs} (h : Rel w cv v (.fn f cs)) : ∃ vs : Array Value, v = .func (.func f) #[] vs ∧ vs.size = cs.length ∧ ∀ i, i < cs.length → Rel w cv (vs.getD i undef) (cs.getD i .any) := by
  cases h with
  | data h => cases h with | fn hs h => exact ⟨_, rfl, hs, fun i hi => .data (h i hi)⟩
  | fn hs h => exact ⟨_, rfl, hs, h⟩
theorem Rel.ptr_inv {id off u} (h : Rel w cv v (.ptr id off)) (hu : cv id = some u) : ∃ b, u = .pointer (some ⟨b, 0, none⟩) ∧ v = .pointer (some ⟨b, off, none⟩) := by
  cases h with
  | data h => cases h
  | ptr h => exact h u hu
theorem Rel.rpt_inv {id esz i off u} (h : Rel w cv v (.rpt id esz i off)) (hu : cv id = some u) : ∃ b l c, u = .slice (some ⟨b, 0, none⟩) l c ∧ i < l ∧ v = .pointer (some ⟨b, i * esz + off, none⟩) := by
  cases h with
  | data h => cases h
  | rpt h => exact h u hu
theorem Rel.sl_inv {id len u} (h : Rel w cv v (.sl id len)) (hu : cv id = some u) : v = u ∧ ∃ a c, u = .slice a len c := by
  cases h with
  | data h => cases h
  | sl h => exact h u hu
theorem Rel.ro_inv {esz len get} (h : Rel w cv v (.ro esz len get)) : RelD w (Sx w cv) v (.ro esz len get) := by cases h with | data h => exact h
theorem Rel.rop_inv {d off} (h : Rel w cv v (.rop d off)) : RelD w (Sx w cv) v (.rop d off) := by cases h with | data h => exact h
end
omit [XS] in
theorem RelD.ro_slice {w : World} {S : Nat → Prop} {v : Value} {esz len : Nat} {get : Row A} (h : RelD w S v (.ro esz len get)) : ∃ a cap, v = .slice a len cap := by
  cases h; exact ⟨_, _, rfl⟩
omit [XS] in
theorem RelD.flat_one {w : World} {S : Nat → Prop} {v : Value} {a : A} (h : RelD w S v a) (hf : a.flat = true) : v.oneCell' = true ∧ v.cells = #[v] := by
  cases h <;> first | exact ⟨rfl, rfl⟩ | (simp [A.flat] at hf)
theorem Rel.flat_one {w : World} {cv : Nat → Option Value} {v : Value} {a : A} (h : Rel w cv v a) (hf : a.flat = true)
    (hid : ∀ id, a.has id = true → ∃ u, cv id = some u) : v.oneCell' = true ∧ v.cells = #[v] := by
  cases h with
  | any => simp [A.flat] at hf
  | data h => exact h.flat_one hf
  | agg => simp [A.flat] at hf
  | tup => simp [A.flat] at hf
  | fn => exact ⟨rfl, rfl⟩
  | @ptr _ id _ h => obtain ⟨u, hu⟩ := hid id (by simp [A.has]); obtain ⟨b, _, rfl⟩ := h u hu; exact ⟨rfl, rfl⟩
  | @rpt _ id _ _ _ h => obtain ⟨u, hu⟩ := hid id (by simp [A.has]); obtain ⟨b, l, c, _, _, rfl⟩ := h u hu; exact ⟨rfl, rfl⟩
  | @sl _ id _ h => obtain ⟨u, hu⟩ := hid id (by simp [A.has]); obtain ⟨rfl, a, c, rfl⟩ := h u hu; exact ⟨rfl, rfl⟩
end Go.Fw

/-
  What the executor's tables must be of a program; how an abstract state stands to a frame and a world.
-/
namespace Go.Fw
variable [XS]
open Go.RowKit (Below)
def zeroOk : Value → A → Bool
  | .bool b, .bool b' => b == b'
  | .int k n, .int k' n' => decide (k = k') && decide (n = n')
  | .float k n, .flt k' n' => decide (k = k') && decide (n = 0) && decide (n' = 0)
  | .complex k n m, .cpx k' n' m' => decide (k = k') && decide (n = 0) && decide (n' = 0) && decide (m = 0) && decide (m' = 0)
  | .pointer none, .nilp => true
  | .slice none 0 0, .emp => true
  | .slice none 0 0, .nils => true
  | _, _ => false
def zerosOk : List Value → List A → Bool
  | [], [] => true
  | v :: r, a :: s => zeroOk v a && zerosOk r s
  | _, _ => false
def aggDesc : TypeDesc → Bool
  | .struct _ => true
  | .array _ _ => true
  | _ => false
structure V3OK (P : Program) (t : Nat) : Prop where
  ok : ∃ (fs : Array Field) (f g h : Field), P.underlying t = some (.struct fs) ∧ fs.toList = [f, g, h] ∧ (f.name ≠ "_" ∧ g.name ≠ "_" ∧ h.name ≠ "_") ∧ (f.offset = 0 ∧ g.offset = 1 ∧ h.offset = 2) ∧
    (P.underlying f.type = some (.float .f32) ∧ P.underlying g.type = some (.float .f32) ∧ P.underlying h.type = some (.float .f32)) ∧ P.stoodInHeld t = false ∧ P.eqGuardType P.depth t = false
structure TIOK (P : Program) (t : Nat) (ti : TI) : Prop where
  info : ∃ i d z, P.info? t = some i ∧ P.underlying t = some d ∧ i.size = ti.size ∧ i.bytes = ti.bytes ∧ i.zero = some z ∧ zerosOk z.cells.toList ti.zero = true ∧
    ti.agg = aggDesc d ∧ ti.zero.length = ti.size ∧
    (ti.agg = true → ∃ cs, z = .agg cs) ∧ (ti.agg = false → ti.size = 1)
  fields : ti.fields ≠ [] → ∃ fs : Array Field, P.underlying t = some (.struct fs) ∧ fs.toList.mapM (fun f => (P.info? f.type).map fun i => (f.offset, i.size)) = some ti.fields ∧ ∀ p, p ∈ ti.fields → 0 < p.2
  elem : ∀ e : Nat, ti.elem = some e → P.underlying t = some (.slice e)
  fk : ∀ k, ti.fk = some k → P.underlying t = some (.float k)
  ik : ∀ k, ti.ik = some k → P.underlying t = some (.int k)
  ck : ∀ k, ti.ck = some k → P.underlying t = some (.complex k)
  isBool : ti.isBool = true → P.underlying t = some .bool
  v3 : ti.v3 = true → V3OK P t
  pos : 0 < ti.size
def extRun : Ext → Array Value → Sem Value
  | .sqrt => Extern.MathSqrt.sqrt | .bits32 => Extern.MathFloatBits.float32bits | .bits64 => Extern.MathFloatBits.float64bits
  | .from32 => Extern.MathFloatBits.float32frombits | .from64 => Extern.MathFloatBits.float64frombits
def ObjOKS (B : Nat) (w : World) (S : Nat → Prop) (cv : Nat → Option Value) (id : Nat) : O → Prop
  | .var cs => ∃ b vs E, cv id = some (.pointer (some ⟨b, 0, none⟩)) ∧ w.heap[b]? = some (.cells vs E (0, 0)) ∧ vs.size = cs.length ∧
      ∀ j, j < cs.length → RelS w S cv (vs.getD j undef) (cs.getD j .any)
  | .row e esz len get => ∃ v E xs, cv id = some v ∧ w.ownsRow B E esz v len xs ∧ (e ≠ 0 → E = e) ∧ 0 < esz ∧
      (∀ i, i < len → (get i).cells.length = esz) ∧
      (∀ i j, i < len → j < esz → ((get i).cells.getD j .any).flat = true ∧ RelD w S (xs.getD (i * esz + j) undef) ((get i).cells.getD j .any))
  | .arr e esz len cs => ∃ v E xs, cv id = some v ∧ w.ownsRow B E esz v len xs ∧ E = e ∧ 0 < esz ∧ cs.length = len * esz ∧ (∃ p c, v = .slice p len c) ∧
      ∀ j, j < cs.length → RelS w S cv (xs.getD j undef) (cs.getD j .any)
abbrev ObjOK (B : Nat) (w : World) (cv : Nat → Option Value) (id : Nat) (o : O) : Prop := ObjOKS B w (Sx w cv) cv id o
def O.has (id : Nat) : O → Bool
  | .var cs => A.hasAny id cs
  | .row .. => false
  | .arr _ _ _ cs => A.hasAny id cs
def PostV (B : Nat) (T : Nat → Prop) (w' : World) (v : Value) (r : A) : Prop :=
  ∀ base, ∃ cv : Nat → Option Value,
    (∀ id u, cv id = some u → base ≤ id ∧ id < (imp base r).2.2 ∧ ∀ b, blk u = some b → B ≤ b ∧ b < w'.heap.size) ∧
    (∀ i j u u' b, cv i = some u → cv j = some u' → blk u = some b → blk u' = some b → i = j) ∧
    (∀ id o, look (imp base r).2.1 id = some o → ObjOKS B w' (fun b => (B ≤ b ∨ T b) ∧ Sy w' cv b) cv id o) ∧
    RelS w' (fun b => (B ≤ b ∨ T b) ∧ Sy w' cv b) cv v (imp base r).1
def PureCall (P : Program) (f : Nat) (ds : List A) (r : A) : Prop :=
  ∀ (w : World) (vs : Array Value) (T : Nat → Prop), (∀ b, T b → b < w.heap.size) → vs.size = ds.length → (∀ i, i < ds.length → RelD w T (vs.getD i undef) (ds.getD i .any)) →
    Calls P f vs w fun e w' => ∃ v, e = .returned v ∧ Below w.heap.size w w' ∧ PostV w.heap.size (fun b => r.plainR = false ∧ T b) w' v r
def EnvOK (P : Program) (env : Nat → Option (List A → Option (Bool × A))) : Prop :=
  ∀ f s, env f = some s → (∃ fn, P.funcs[f]? = some fn ∧ fn.body.isSome = true ∧ (fn.name == "runtime.NumGoroutine") = false) ∧ ∀ ds c r, s ds = some (c, r) → c = true → PureCall P f ds r
structure MemOK (B : Nat) (w : World) (cv : Nat → Option Value) (ob : Nat → Option O) : Prop where
  obj : ∀ id o, ob id = some o → ObjOK B w cv id o ∧ ∀ i, o.has i = true → ∃ o', ob i = some o'
  dom : ∀ id u, cv id = some u → (∃ o, ob id = some o) ∧ ∀ b, blk u = some b → B ≤ b ∧ b < w.heap.size
  inj : ∀ i j u u' b, cv i = some u → cv j = some u' → blk u = some b → blk u' = some b → i = j
def Live (ob : Nat → Option O) (a : A) : Prop := ∀ id, a.has id = true → ∃ o, ob id = some o
structure SRcv (B : Nat) (w0 : World) (U : Nat → Prop) (G : Value → A → Prop) (σ : St) (a : Act) (w : World) (cv : Nat → Option Value) : Prop where
  size : a.tmps.size = σ.n
  defers : a.defers = []
  below : Below B w0 w
  hB : max B XS.Bx ≤ w.heap.size
  lo : ∀ id, U id → id < σ.next
  lon : σ.lo ≤ σ.next
  used : ∀ id o, σ.obj id = some o → U id
  mem : MemOK B w cv σ.obj
  slot : ∀ t x, look σ.tmps t = some x → Rel w cv (a.tmps.getD t undef) x ∧ Live σ.obj x
  grd : ∀ t g, grdAt σ.grds t = some g → g.t = t ∧ look σ.tmps t = some .any ∧ ∃ c, gcond σ g.s g.w = some c ∧
    (c = true → Rel w cv (a.tmps.getD t undef) g.a ∧ Live σ.obj g.a) ∧ (c = false → a.tmps.getD t undef = undef)
  ghost : ∀ v x, G v x → Rel w cv v x ∧ Live σ.obj x ∧ ∀ id, x.has id = true → id < σ.lo
theorem SRcv.hB' {B : Nat} {w0 : World} {U : Nat → Prop} {G : Value → A → Prop} {σ : St} {a : Act} {w : World} {cv : Nat → Option Value} (h : SRcv B w0 U G σ a w cv) : B ≤ w.heap.size := Nat.le_trans (Nat.le_max_left _ _) h.hB
theorem SRcv.hX {B : Nat} {w0 : World} {U : Nat → Prop} {G : Value → A → Prop} {σ : St} {a : Act} {w : World} {cv : Nat → Option Value} (h : SRcv B w0 U G σ a w cv) : XS.Bx ≤ w.heap.size := Nat.le_trans (Nat.le_max_right _ _) h.hB
def SR (B : Nat) (w0 : World) (U : Nat → Prop) (G : Value → A → Prop) (σ : St) (a : Act) (w : World) : Prop :=
  ∃ cv, SRcv B w0 U G σ a w cv
def XK.out : XK → Exit
  | .normal => .normal
  | .ret => .ret
  | .exit i => .exit i
def Out (B : Nat) (w0 : World) (U : Nat → Prop) (G : Value → A → Prop) (σ σ' : St) (a' : Act) (w' : World) : Prop :=
  ∃ U' : Nat → Prop, (∀ i, U i → U' i) ∧ (∀ i, U' i → U i ∨ σ.next ≤ i) ∧ SR B w0 U' G σ' a' w' ∧ σ'.n = σ.n ∧ σ'.lo = σ.lo ∧ σ.next ≤ σ'.next ∧ σ'.grds = []
def LoopOK (P : Program) (body : Code) (σ : St) (S : XK → St → Prop) : Prop :=
  ∀ (_ : XS) (B : Nat) (w0 : World) (U : Nat → Prop) (G : Value → A → Prop) (a : Act) (w : World), SR B w0 U G σ a w → σ.grds = [] →
    (Code.loop body).wp P (fun e a' w' => ∃ x σ', e = XK.out x ∧ S x σ' ∧ Out B w0 U G σ σ' a' w') a w
def T.Ok (P : Program) : T → (XK → St → Prop) → Prop
  | .leaf x σ, L => L x σ
  | .ite b t e, L => (b = true → t.Ok P L) ∧ (b = false → e.Ok P L)
  | .fail, _ => False
  | .loop body σ k, L => ∃ S, LoopOK P body σ S ∧ ∀ x σ', S x σ' → (k x σ').Ok P L
def CodeOK (P : Program) (ex : Code → St → T) (c : Code) : Prop :=
  ∀ (σ : St) (L : XK → St → Prop), (ex c σ).Ok P L → ∀ (_ : XS) (B : Nat) (w0 : World) (U : Nat → Prop) (G : Value → A → Prop) (a : Act) (w : World), SR B w0 U G σ a w → σ.grds = [] →
    c.wp P (fun e a' w' => ∃ x σ', e = XK.out x ∧ L x σ' ∧ Out B w0 U G σ σ' a' w') a w
structure CfgOK (P : Program) (cfg : Cfg) : Prop where
  tt : ∀ t ti, cfg.tt t = some ti → TIOK P t ti
  ft : ∀ f fn, cfg.ft f = some fn → P.funcs[f]? = some fn ∧ (fn.name == "runtime.NumGoroutine") = false
  xt : ∀ f e, cfg.xt f = some e → ∃ fn, P.funcs[f]? = some fn ∧ (fn.name == "runtime.NumGoroutine") = false ∧ fn.body.isNone = true ∧ Extern.findNext fn = none ∧ Extern.find fn = some (extRun e)
  env : EnvOK P cfg.env
  fx : ∀ g s fn body, cfg.fx g = some s → cfg.ft g = some fn → fn.body = some body → CodeOK P (fun _ σ => s σ) body
  mixed : P.follows .mixedOrders = true
def Grow (w w' : World) : Prop := Below w.heap.size w w'
omit [XS] in
theorem Grow.refl (w : World) : Grow w w := Below.refl _ _
omit [XS] in
theorem Grow.block {w w' : World} (h : Grow w w') {b : Nat} (hb : b < w.heap.size) : w'.heap[b]? = w.heap[b]? := Below.block h b hb
omit [XS] in
theorem Grow.of_drew {w w' : World} (h : Drew w w') : Grow w w' := by
  rcases h with rfl | rfl
  · exact Below.refl _ _
  · exact (Below.refl _ _).drew
omit [XS] in
theorem Grow.trans {a b c : World} (h : Grow a b) (k : Grow b c) : Grow a c := Below.trans h (Below.mono k (Below.size h))
omit [XS] in
theorem Grow.below {B : Nat} {a w w' : World} (h : Below B a w) (hB : B ≤ w.heap.size) (k : Grow w w') : Below B a w' := h.trans (Below.mono k hB)
omit [XS] in
theorem blk_slice {v : Value} {b : Nat} (h : v.ownBlock = some b) : blk v = some b := by
  cases v <;> simp [Value.ownBlock] at h
  rename_i a l c
  cases a <;> simp [blk] at h ⊢
  exact h
structure CvStep (B : Nat) (w w' : World) (cv cv' : Nat → Option Value) : Prop where
  grow : Grow w w'
  old : ∀ id u, cv id = some u → cv' id = some u
  new : ∀ id u, cv' id = some u → cv id = some u ∨ (cv id = none ∧ ∀ b, blk u = some b → w.heap.size ≤ b ∧ b < w'.heap.size)
theorem CvStep.sx {B : Nat} {w w' : World} {cv cv' : Nat → Option Value} (h : CvStep B w w' cv cv') :
    ∀ b, Sx w cv b → Sx w' cv' b ∧ w'.heap[b]? = w.heap[b]? := by
  rintro b ⟨hb, hn, hxb⟩
  refine ⟨⟨Nat.lt_of_lt_of_le hb (Below.size h.grow), fun id u hu e => ?_, hxb⟩, h.grow.block hb⟩
  rcases h.new id u hu with h' | ⟨_, h'⟩
  · exact hn id u h' e
  · have := h' b e; omega
omit [XS] in
theorem CvStep.of_grow {B : Nat} {w w' : World} (cv : Nat → Option Value) (h : Grow w w') : CvStep B w w' cv cv := ⟨h, fun _ _ h => h, fun _ _ h => .inl h⟩
theorem Rel.step {B : Nat} {w w' : World} {cv cv' : Nat → Option Value} {v : Value} {x : A} (h : Rel w cv v x) (hs : CvStep B w w' cv cv')
    (hl : ∀ id, x.has id = true → ∃ u, cv id = some u) : Rel w' cv' v x := by
  refine h.mono hs.sx fun id hid => .inr ?_
  obtain ⟨u, hu⟩ := hl id hid
  rw [hu, hs.old id u hu]
theorem MemOK.live {B : Nat} {w : World} {cv : Nat → Option Value} {ob : Nat → Option O} (h : MemOK B w cv ob) {id : Nat} (hid : ∃ o, ob id = some o) : ∃ u, cv id = some u := by
  obtain ⟨o, ho⟩ := hid
  have := (h.obj id o ho).1
  cases o with
  | var cs => obtain ⟨b, vs, E, h, _⟩ := this; exact ⟨_, h⟩
  | row e esz len get => obtain ⟨v, E, xs, h, _⟩ := this; exact ⟨_, h⟩
  | arr e esz len cs => obtain ⟨v, E, xs, h, _⟩ := this; exact ⟨_, h⟩
omit [XS] in
theorem ownsRow_block {w w' : World} {B E esz : Nat} {v : Value} {n : Nat} {xs : List Value} (h : w.ownsRow B E esz v n xs)
    (hb : ∀ b, blk v = some b → w'.heap[b]? = w.heap[b]?) : w'.ownsRow B E esz v n xs := by
  obtain ⟨h1, h2⟩ := h
  refine ⟨h1, ?_⟩
  rcases h2 with h2 | ⟨g, cap, cur, rfl, hg, hh, r⟩
  · exact .inl h2
  · exact .inr ⟨g, cap, cur, rfl, hg, by rw [hb g rfl]; exact hh, r⟩
omit [XS] in
theorem ObjOKS.step {B : Nat} {w w' : World} {S S' : Nat → Prop} {cv cv' : Nat → Option Value} {id : Nat} {o : O} (h : ObjOKS B w S cv id o)
    (hs : ∀ b, S b → S' b ∧ w'.heap[b]? = w.heap[b]?) (hid : cv' id = cv id)
    (hb : ∀ u b, cv id = some u → blk u = some b → w'.heap[b]? = w.heap[b]?)
    (hcv : ∀ i, o.has i = true → cv' i = none ∨ cv' i = cv i) : ObjOKS B w' S' cv' id o := by
  cases o with
  | var cs =>
    obtain ⟨b, vs, E, hc, hh, hz, hr⟩ := h
    exact ⟨b, vs, E, hid.trans hc, (hb _ b hc rfl).trans hh, hz, fun j hj => (hr j hj).mono hs fun i hi => hcv i (by simpa [O.has] using hasAny_getD hi)⟩
  | row e esz len get =>
    obtain ⟨v, E, xs, hc, hown, he, hp, hz, hr⟩ := h
    exact ⟨v, E, xs, hid.trans hc, ownsRow_block hown (fun b hv => hb v b hc hv), he, hp, hz, fun i j hi hj => ⟨(hr i j hi hj).1, (hr i j hi hj).2.mono hs⟩⟩
  | arr e esz len cs =>
    obtain ⟨v, E, xs, hc, hown, hE, hp, hl, hv, hr⟩ := h
    exact ⟨v, E, xs, hid.trans hc, ownsRow_block hown (fun b hv => hb v b hc hv), hE, hp, hl, hv, fun j hj => (hr j hj).mono hs fun i hi => hcv i (by simpa [O.has] using hasAny_getD hi)⟩
theorem MemOK.grow {B : Nat} {w w' : World} {cv : Nat → Option Value} {ob : Nat → Option O} (h : MemOK B w cv ob) (g : Grow w w') : MemOK B w' cv ob := by
  have hs := (CvStep.of_grow (B := B) cv g).sx
  refine ⟨fun id o ho => ⟨(h.obj id o ho).1.step hs rfl (fun u b hu hb => g.block ((h.dom id u hu).2 b hb).2) fun i _ => .inr rfl, (h.obj id o ho).2⟩, fun id u hu => ⟨(h.dom id u hu).1, fun b hb => ⟨((h.dom id u hu).2 b hb).1, Nat.lt_of_lt_of_le ((h.dom id u hu).2 b hb).2 (Below.size g)⟩⟩, h.inj⟩
theorem MemOK.add {B : Nat} {w w' : World} {cv cv' : Nat → Option Value} {ob ob' : Nat → Option O} (h : MemOK B w cv ob)
    (hs : CvStep B w w' cv cv') (hBw : B ≤ w.heap.size)
    (hob : ∀ id o, ob' id = some o → ob id = some o ∨ (ObjOK B w' cv' id o ∧ ∀ i, o.has i = true → ∃ o', ob' i = some o'))
    (hkeep : ∀ id o, ob id = some o → ∃ o', ob' id = some o')
    (hdom : ∀ id u, cv' id = some u → ∃ o, ob' id = some o)
    (hinj : ∀ i j u u' b, cv' i = some u → cv' j = some u' → cv i = none → cv j = none → blk u = some b → blk u' = some b → i = j) : MemOK B w' cv' ob' := by
  have live : ∀ id, (∃ o, ob id = some o) → ∃ u, cv id = some u := fun id hid => h.live hid
  refine ⟨fun id o ho => ?_, fun id u hu => ⟨hdom id u hu, fun b hb => ?_⟩, fun i j u u' b hi hj hb hb' => ?_⟩
  · rcases hob id o ho with hold | hnew
    · have ⟨h1, h2⟩ := h.obj id o hold
      obtain ⟨u0, hu0⟩ := live id ⟨o, hold⟩
      refine ⟨h1.step hs.sx (by rw [hu0, hs.old id u0 hu0]) (fun u b hu hb => hs.grow.block ((h.dom id u hu).2 b hb).2) fun i hi => ?_, fun i hi => ?_⟩
      · obtain ⟨u, hu⟩ := live i (h2 i hi)
        exact .inr (by rw [hu, hs.old i u hu])
      · obtain ⟨o', ho'⟩ := h2 i hi
        exact hkeep i o' ho'
    · exact hnew
  · rcases hs.new id u hu with h' | ⟨_, h'⟩
    · have := (h.dom id u h').2 b hb
      exact ⟨this.1, Nat.lt_of_lt_of_le this.2 (Below.size hs.grow)⟩
    · have := h' b hb
      exact ⟨by omega, this.2⟩
  · rcases hs.new i u hi with h1 | ⟨n1, h1⟩ <;> rcases hs.new j u' hj with h2 | ⟨n2, h2⟩
    · exact h.inj i j u u' b h1 h2 hb hb'
    · have := (h.dom i u h1).2 b hb; have := h2 b hb'; omega
    · have := (h.dom j u' h2).2 b hb'; have := h1 b hb; omega
    · exact hinj i j u u' b hi hj n1 n2 hb hb'
end Go.Fw

/-
  Each operation that changes nothing that was there: what the model's run gives stands for what the executor says.
-/
namespace Go.Fw
variable [XS]
open Go.RowKit (Below)
theorem ofConst_rel (w : World) (cv : Nat → Option Value) (v : Value) : Rel w cv v (ofConst v) := by
  unfold ofConst
  split
  · exact .data (.bool _)
  · exact .data (.int _ _)
  · split
    · rename_i h; exact .data (.flt (FR.mk h))
    · exact .any _
  · split
    · rename_i h
      simp only [Bool.and_eq_true] at h
      exact .data (.cpx (FR.mk h.1) (FR.mk h.2))
    · exact .any _
  · exact .data .nilp
  · exact .data (.emp _)
  · split
    · rename_i h1 h2
      rw [Array.toList_eq_nil_iff] at h1 h2
      subst h1 h2
      exact .data (.fn (by simp) (by simp))
    · exact .any _
  · exact .any _
omit [XS] in
theorem ofConst_has (v : Value) (id : Nat) : (ofConst v).has id = false := by
  unfold ofConst
  split <;> first | rfl | (split <;> rfl)
structure Slots (w : World) (cv : Nat → Option Value) (ob : Nat → Option O) (a : Act) (get : Nat → A) : Prop where
  rel : ∀ t, Rel w cv (a.tmps.getD t undef) (get t)
  live : ∀ t, Live ob (get t)
theorem Slots.opd {w : World} {cv : Nat → Option Value} {ob : Nat → Option O} {a : Act} {get : Nat → A} (h : Slots w cv ob a get) (x : Operand) :
    Rel w cv (a.eval x) (opd get x) ∧ Live ob (opd get x) := by
  cases x with
  | tmp t => exact ⟨h.rel t, h.live t⟩
  | const v => exact ⟨ofConst_rel w cv v, fun id hid => by simp [Fw.opd, ofConst_has] at hid⟩
  | global g => exact ⟨.any _, fun id hid => by simp [Fw.opd, A.has] at hid⟩
  | func f => exact ⟨.data (.fn (by simp) (by simp)), fun id hid => by simp [Fw.opd, A.has, A.hasAny] at hid⟩
omit [XS] in
theorem live_none {ob : Nat → Option O} {x : A} (h : ∀ id, x.has id = false) : Live ob x := fun id hid => by rw [h id] at hid; cases hid
def QSound (P : Program) (B : Nat) (cv : Nat → Option Value) (ob : Nat → Option O) (o : Oper) (a : Act) (w : World) (x : A) (os : List (Nat × O)) : Prop :=
  ∀ (K : Act → World → Prop) (Q : Exit → Act → World → Prop),
    (∀ v w' cv', CvStep B w w' cv cv' →
      (∀ id o', look os id = some o' → ObjOK B w' cv' id o' ∧ ∀ i, o'.has i = true → (∃ o'', ob i = some o'') ∨ ∃ o'', look os i = some o'') →
      (∀ id u, cv' id = some u → cv id = some u ∨ ∃ o', look os id = some o') →
      (∀ i j u u' b, cv' i = some u → cv' j = some u' → cv i = none → cv j = none → blk u = some b → blk u' = some b → i = j) →
      Rel w' cv' v x → (∀ id, x.has id = true → (∃ o', ob id = some o') ∨ ∃ o', look os id = some o') →
      K (a.put o.dst v) w') → o.wp P a w K Q
section
variable {P : Program} {B : Nat} {cv : Nat → Option Value} {ob : Nat → Option O} {o : Oper} {a : Act} {w : World}
theorem QSound.value {x : A} (v : Value) (w' : World) (hr : (execOp a.eval o).run P w = .ok (.value v) w') (hg : Grow w w')
    (hx : Rel w cv v x) (hl : Live ob x) (hm : MemOK B w cv ob) : QSound P B cv ob o a w x [] := by
  intro K Q hK
  show o.upon P a K Q _
  rw [hr]
  refine hK v w' cv (.of_grow cv hg) (by intro id o' h; cases h) (fun id u h => .inl h) (fun i j u u' b hi _ h => by rw [hi] at h; cases h) ?_ (fun id hid => .inl (hl id hid))
  exact hx.step (.of_grow cv hg) (B := B) fun id hid => hm.live (hl id hid)
theorem QSound.value' {x : A} (v : Value) (w' : World) (hr : (execOp a.eval o).run P w = .ok (.value v) w') (hg : Grow w w')
    (hx : Rel w' cv v x) (hl : Live ob x) : QSound P B cv ob o a w x [] := by
  intro K Q hK
  show o.upon P a K Q _
  rw [hr]
  exact hK v w' cv (.of_grow cv hg) (by intro id o' h; cases h) (fun id u h => .inl h) (fun i j u u' b hi _ h => by rw [hi] at h; cases h) hx (fun id hid => .inl (hl id hid))
def upd {β : Type} (f : Nat → Option β) (i : Nat) (v : β) : Nat → Option β := fun j => if j = i then some v else f j
omit [XS] in
theorem upd_same {β : Type} (f : Nat → Option β) (i : Nat) (v : β) : upd f i v i = some v := by simp [upd]
omit [XS] in
theorem upd_other {β : Type} (f : Nat → Option β) {i j : Nat} (v : β) (h : j ≠ i) : upd f i v j = f j := by simp [upd, h]
omit [XS] in
theorem Grow.alloc (w : World) (o : Obj) : Grow w (w.alloc o) := (Below.refl _ _).alloc (Nat.le_refl _) o
omit [XS] in
theorem cvStep_alloc {base : Nat} (o : Obj) (u : Value) (hu : blk u = none ∨ blk u = some w.heap.size) (hf : cv base = none) :
    CvStep B w (w.alloc o) cv (upd cv base u) := by
  refine ⟨Grow.alloc w o, fun id u' h => ?_, fun id u' h => ?_⟩
  · have : id ≠ base := fun e => by rw [e, hf] at h; cases h
    rw [upd_other cv u this]; exact h
  · by_cases e : id = base
    · subst e
      rw [upd_same] at h
      injection h with h
      subst h
      refine .inr ⟨hf, fun b hb => ?_⟩
      rcases hu with hu | hu
      · rw [hu] at hb; cases hb
      · rw [hu] at hb; injection hb with hb; subst hb; simp
    · rw [upd_other cv u e] at h; exact .inl h
theorem QSound.alloc {x : A} {base : Nat} {o' : O} (v u : Value) (c : Obj) (hr : (execOp a.eval o).run P w = .ok (.value v) (w.alloc c))
    (hu : blk u = none ∨ blk u = some w.heap.size) (hf : cv base = none) (hob : ObjOK B (w.alloc c) (upd cv base u) base o')
    (ho : ∀ i, o'.has i = true → ∃ o'', ob i = some o'') (hx : Rel (w.alloc c) (upd cv base u) v x) (hxh : ∀ id, x.has id = true → (∃ o'', ob id = some o'') ∨ id = base) :
    QSound P B cv ob o a w x [(base, o')] := by
  intro K Q hK
  show o.upon P a K Q _
  rw [hr]
  refine hK v _ (upd cv base u) (cvStep_alloc c u hu hf) ?_ ?_ ?_ hx ?_
  · intro id o'' h
    simp only [look] at h
    split at h
    · rename_i hb
      have e : base = id := Nat.eq_of_beq_eq_true hb
      subst e
      injection h with h
      subst h
      exact ⟨hob, fun i hi => .inl (ho i hi)⟩
    · cases h
  · intro id u' h
    by_cases e : id = base
    · subst e; exact .inr ⟨o', by simp [look]⟩
    · rw [upd_other cv u e] at h; exact .inl h
  · intro i j u1 u2 b hi hj hni hnj _ _
    have ei : i = base := by
      by_cases e : i = base
      · exact e
      · rw [upd_other cv u e, hni] at hi; cases hi
    have ej : j = base := by
      by_cases e : j = base
      · exact e
      · rw [upd_other cv u e, hnj] at hj; cases hj
    rw [ei, ej]
  · intro id hid
    rcases hxh id hid with h | rfl
    · exact .inl h
    · exact .inr ⟨o', by simp [look]⟩
omit [XS] in
theorem getD_cons_zero {x : A} {r : List A} : (x :: r).getD 0 .any = x := rfl
theorem cells_rel {w : World} {cv : Nat → Option Value} {v : Value} {x : A} (h : Rel w cv v x) (hx : x ≠ .any)
    (hid : ∀ id, x.has id = true → ∃ u, cv id = some u) :
    v.cells.size = x.cells.length ∧ ∀ j, j < x.cells.length → Rel w cv (v.cells.getD j undef) (x.cells.getD j .any) := by
  by_cases hf : x.flat = true
  · have h1 := (h.flat_one hf hid).2
    rw [h1, flat_cells hf]
    refine ⟨rfl, fun j hj => ?_⟩
    have : j = 0 := by simp at hj; exact hj
    subst this
    exact h
  · cases x with
    | agg cs =>
      obtain ⟨vs, rfl, hs, hr⟩ := h.agg_inv
      exact ⟨hs, hr⟩
    | tup cs =>
      obtain ⟨vs, rfl, hs, hr⟩ := h.tup_inv
      refine ⟨rfl, fun j hj => ?_⟩
      have : j = 0 := by simp [A.cells] at hj; exact hj
      subst this
      exact h
    | any => exact absurd rfl hx
    | _ => simp [A.flat] at hf
omit [XS] in
theorem cells_has {x : A} {id j : Nat} (h : (x.cells.getD j .any).has id = true) : x.has id = true := by
  cases x with
  | agg cs => simp only [A.has]; exact hasAny_getD h
  | _ =>
    cases j with
    | zero => simpa [A.cells] using h
    | succ j => simp [A.cells, A.has] at h
omit [XS] in
theorem zeroOk_rel (w : World) (S : Nat → Prop) {v : Value} {x : A} (h : zeroOk v x = true) : RelD w S v x ∧ (∀ id, x.has id = false) ∧ x.flat = true ∧ v.oneCell' = true := by
  unfold zeroOk at h
  split at h
  · simp only [beq_iff_eq] at h; subst h; exact ⟨.bool _, fun _ => rfl, rfl, rfl⟩
  · simp only [Bool.and_eq_true, decide_eq_true_eq] at h; obtain ⟨rfl, rfl⟩ := h; exact ⟨.int _ _, fun _ => rfl, rfl, rfl⟩
  · rename_i k n k' n'
    simp only [Bool.and_eq_true, decide_eq_true_eq] at h; obtain ⟨⟨rfl, rfl⟩, rfl⟩ := h
    exact ⟨.flt ⟨by cases k <;> decide, by cases k <;> decide⟩, fun _ => rfl, rfl, rfl⟩
  · rename_i k n m k' n' m'
    simp only [Bool.and_eq_true, decide_eq_true_eq] at h; obtain ⟨⟨⟨⟨rfl, rfl⟩, rfl⟩, rfl⟩, rfl⟩ := h
    exact ⟨.cpx ⟨by cases k <;> decide, by cases k <;> decide⟩ ⟨by cases k <;> decide, by cases k <;> decide⟩, fun _ => rfl, rfl, rfl⟩
  · exact ⟨.nilp, fun _ => rfl, rfl, rfl⟩
  · exact ⟨.emp _, fun _ => rfl, rfl, rfl⟩
  · exact ⟨.nils, fun _ => rfl, rfl, rfl⟩
  · cases h
omit [XS] in
theorem zerosOk_rel (w : World) (S : Nat → Prop) : ∀ {vs : List Value} {xs : List A}, zerosOk vs xs = true →
    vs.length = xs.length ∧ ∀ j, j < xs.length → RelD w S (vs.getD j undef) (xs.getD j .any) ∧ (∀ id, (xs.getD j .any).has id = false) ∧ (xs.getD j .any).flat = true ∧ (vs.getD j undef).oneCell' = true
  | [], [], _ => ⟨rfl, fun j hj => by simp at hj⟩
  | v :: r, x :: s, h => by
    simp only [zerosOk, Bool.and_eq_true] at h
    have ih := zerosOk_rel w S h.2
    refine ⟨by simp [ih.1], fun j hj => ?_⟩
    cases j with
    | zero => exact zeroOk_rel w S h.1
    | succ j => exact ih.2 j (by simpa using hj)
  | [], _ :: _, h => by simp [zerosOk] at h
  | _ :: _, [], h => by simp [zerosOk] at h
omit [XS] in
theorem zeros_has {vs : List Value} {xs : List A} (h : zerosOk vs xs = true) (id : Nat) : A.hasAny id xs = false := by
  induction xs generalizing vs with
  | nil => rfl
  | cons x s ih =>
    cases vs with
    | nil => simp [zerosOk] at h
    | cons v r =>
      simp only [zerosOk, Bool.and_eq_true] at h
      have h1 := (zeroOk_rel default (fun _ => True) h.1).2.1 id
      simp only [A.hasAny, h1]
      exact ih h.2
omit [XS] in
theorem toList_getD (vs : Array Value) (j : Nat) : vs.toList.getD j undef = vs.getD j undef := by
  simp only [List.getD, Array.getElem?_toList, Array.getD]
  by_cases h : j < vs.size <;> simp [h]
omit [XS] in
theorem run_zeroValue {t : Nat} {i : TypeInfo} {z : Value} (hi : P.info? t = some i) (hz : i.zero = some z) : (zeroValue t).run P w = .ok z w := by
  simp [zeroValue, typeInfo, hi, hz]
omit [XS] in
theorem run_sizeOf {t : Nat} {i : TypeInfo} (hi : P.info? t = some i) : (sizeOf t).run P w = .ok i.size w := by
  simp [sizeOf, typeInfo, hi]
theorem q_alloc {cfg : Cfg} (hc : CfgOK P cfg) {t : Nat} {ti : TI} (ht : cfg.tt t = some ti) {base : Nat} (ho : o.op = .alloc t) (hf : cv base = none) (hm : MemOK B w cv ob) :
    QSound P B cv ob o a w (.ptr base 0) [(base, .var ti.zero)] := by
  obtain ⟨i, d, z, hi, hu, hs, hb, hz, hzz, hag, hzl, hza, hz1⟩ := (hc.tt t ti ht).info
  have hrun : (execOp a.eval o).run P w = .ok (.value (.pointer (some ⟨w.heap.size, 0, none⟩))) (w.alloc (.cells z.cells t)) := by
    simp [execOp, ho, Instr.alloc, run_zeroValue hi hz, newVar, newRow]
  have hzr := fun S => zerosOk_rel (w.alloc (.cells z.cells t)) S hzz
  refine QSound.alloc _ (.pointer (some ⟨w.heap.size, 0, none⟩)) _ hrun (.inr rfl) hf ?_ ?_ ?_ ?_
  · refine ⟨w.heap.size, z.cells, t, upd_same _ _ _, heap_alloc_new w _, ?_, fun j hj => ?_⟩
    · simpa using (hzr (fun _ => True)).1
    · have h1 := ((hzr (Sx (w.alloc (.cells z.cells t)) (upd cv base (.pointer (some ⟨w.heap.size, 0, none⟩))))).2 j hj).1
      rw [toList_getD] at h1
      exact .data h1
  · intro i hi'
    simp [O.has, zeros_has hzz] at hi'
  · refine .ptr fun u hu' => ?_
    rw [upd_same] at hu'
    injection hu' with hu'
    exact ⟨_, hu'.symm, rfl⟩
  · intro id hid
    simp only [A.has] at hid
    exact .inr (Nat.eq_of_beq_eq_true hid).symm
theorem q_box {t : Nat} {x : Operand} {ax : A} (ho : o.op = .box t x) {base : Nat} (hf : cv base = none) (hm : MemOK B w cv ob)
    (hx : Rel w cv (a.eval x) ax) (hl : Live ob ax) (hne : ax ≠ .any) :
    QSound P B cv ob o a w (.ptr base 0) [(base, .var ax.cells)] := by
  have hrun : (execOp a.eval o).run P w = .ok (.value (.pointer (some ⟨w.heap.size, 0, none⟩))) (w.alloc (.cells (a.eval x).cells t)) := by
    simp [execOp, ho, Instr.box, newVar, newRow]
  have hcr := cells_rel hx hne fun id hid => hm.live (hl id hid)
  have hst : CvStep B w (w.alloc (.cells (a.eval x).cells t)) cv (upd cv base (.pointer (some ⟨w.heap.size, 0, none⟩))) := cvStep_alloc _ _ (.inr rfl) hf
  refine QSound.alloc _ (.pointer (some ⟨w.heap.size, 0, none⟩)) _ hrun (.inr rfl) hf ?_ ?_ ?_ ?_
  · refine ⟨w.heap.size, (a.eval x).cells, t, upd_same _ _ _, heap_alloc_new w _, hcr.1, fun j hj => ?_⟩
    exact (hcr.2 j hj).step hst fun id hid => hm.live (hl id (cells_has hid))
  · intro i hi
    have : ax.has i = true := by
      simp only [O.has] at hi
      have key : ∀ l : List A, A.hasAny i l = true → ∃ j, (l.getD j .any).has i = true := by
        intro l
        induction l with
        | nil => intro h; simp [A.hasAny] at h
        | cons y r ih =>
          intro h
          simp only [A.hasAny] at h
          split at h
          · rename_i hy; exact ⟨0, hy⟩
          · obtain ⟨j, hj⟩ := ih h; exact ⟨j + 1, by simpa using hj⟩
      obtain ⟨j, hj⟩ := key _ hi
      exact cells_has hj
    exact hl i this
  · refine .ptr fun u hu' => ?_
    rw [upd_same] at hu'
    injection hu' with hu'
    exact ⟨_, hu'.symm, rfl⟩
  · intro id hid
    simp only [A.has] at hid
    exact .inr (Nat.eq_of_beq_eq_true hid).symm
end
end Go.Fw

/-
  The operations, continued: aggregates, slices, loads, places, arithmetic, conversions.
-/
namespace Go.Fw
variable [XS]
open Go.RowKit (Below)
structure LRel (R : Value → A → Prop) (vs : List Value) (xs : List A) : Prop where
  len : vs.length = xs.length
  at_ : ∀ j, j < xs.length → R (vs.getD j undef) (xs.getD j .any)
omit [XS] in
theorem getD_append_left {β : Type} (l r : List β) (j : Nat) (d : β) (h : j < l.length) : (l ++ r).getD j d = l.getD j d := by
  simp [List.getD, List.getElem?_append_left h]
omit [XS] in
theorem getD_append_right {β : Type} (l r : List β) (j : Nat) (d : β) (h : l.length ≤ j) : (l ++ r).getD j d = r.getD (j - l.length) d := by
  simp [List.getD, List.getElem?_append_right h]
omit [XS] in
theorem getD_take {β : Type} (l : List β) (n j : Nat) (d : β) (h : j < n) : (l.take n).getD j d = l.getD j d := by
  simp [List.getD, List.getElem?_take, h]
omit [XS] in
theorem getD_drop {β : Type} (l : List β) (n j : Nat) (d : β) : (l.drop n).getD j d = l.getD (n + j) d := by
  simp [List.getD, List.getElem?_drop]
omit [XS] in
theorem LRel.append {R : Value → A → Prop} {vs vs' : List Value} {xs xs' : List A} (h : LRel R vs xs) (h' : LRel R vs' xs') : LRel R (vs ++ vs') (xs ++ xs') := by
  refine ⟨by simp [h.len, h'.len], fun j hj => ?_⟩
  by_cases hlt : j < xs.length
  · rw [getD_append_left _ _ _ _ (by rw [h.len]; exact hlt), getD_append_left _ _ _ _ hlt]; exact h.at_ j hlt
  · rw [getD_append_right _ _ _ _ (by rw [h.len]; omega), getD_append_right _ _ _ _ (by omega), h.len]
    exact h'.at_ _ (by simp at hj; omega)
omit [XS] in
theorem LRel.take {R : Value → A → Prop} {vs : List Value} {xs : List A} (h : LRel R vs xs) (n : Nat) : LRel R (vs.take n) (xs.take n) := by
  refine ⟨by simp [h.len], fun j hj => ?_⟩
  simp only [List.length_take] at hj
  rw [getD_take _ _ _ _ (by omega), getD_take _ _ _ _ (by omega)]; exact h.at_ j (by omega)
omit [XS] in
theorem LRel.drop {R : Value → A → Prop} {vs : List Value} {xs : List A} (h : LRel R vs xs) (n : Nat) : LRel R (vs.drop n) (xs.drop n) := by
  refine ⟨by simp [h.len], fun j hj => ?_⟩
  simp only [List.length_drop] at hj
  rw [getD_drop, getD_drop]; exact h.at_ _ (by omega)
omit [XS] in
theorem LRel.of_array {R : Value → A → Prop} {vs : Array Value} {xs : List A} (hs : vs.size = xs.length) (h : ∀ j, j < xs.length → R (vs.getD j undef) (xs.getD j .any)) : LRel R vs.toList xs :=
  ⟨by simpa using hs, fun j hj => by rw [toList_getD]; exact h j hj⟩
omit [XS] in
theorem LRel.to_array {R : Value → A → Prop} {vs : Array Value} {xs : List A} (h : LRel R vs.toList xs) : vs.size = xs.length ∧ ∀ j, j < xs.length → R (vs.getD j undef) (xs.getD j .any) :=
  ⟨by simpa using h.len, fun j hj => by have := h.at_ j hj; rwa [toList_getD] at this⟩
omit [XS] in
theorem fill_step (off : Nat) : ∀ (l : List Value) (k : Nat) (cells : Array Value), off + k + l.length ≤ cells.size →
    ((l.zipIdx k).foldl (fun (cs : Array Value) (p : Value × Nat) => cs.setIfInBounds (off + p.2) p.1) cells).toList = cells.toList.take (off + k) ++ l ++ cells.toList.drop (off + k + l.length)
  | [], k, cells, _ => by simp
  | v :: r, k, cells, h => by
    simp only [List.length_cons] at h
    rw [List.zipIdx_cons, List.foldl_cons, fill_step off r (k + 1) _ (by simp; omega)]
    simp only [Array.toList_setIfInBounds, List.length_cons]
    have hlt : off + k < cells.toList.length := by simp; omega
    rw [show off + (k + 1) = off + k + 1 by omega, List.take_set, List.drop_set, if_pos (by omega)]
    have h1 : (cells.toList.take (off + k + 1)).set (off + k) v = cells.toList.take (off + k) ++ [v] := by
      rw [List.take_add_one, List.getElem?_eq_getElem hlt]
      simp only [Option.toList_some]
      rw [List.set_append_right _ _ (by simp; omega)]
      simp only [List.length_take]
      rw [show off + k - min (off + k) cells.toList.length = 0 by omega]
      rfl
    rw [h1]
    simp [Nat.add_comm, Nat.add_left_comm]
omit [XS] in
theorem run_fill1 (place : Nat → Option (Nat × Nat)) (cells : Array Value) (i off size : Nat) (v : Value) (rest : List (Nat × Value)) (hp : place i = some (off, size))
    (hs : v.cells.size = size) (hl : off + size ≤ cells.size) :
    Instr.fill place cells ((i, v) :: rest) = Instr.fill place (cells.toList.take off ++ v.cells.toList ++ cells.toList.drop (off + size)).toArray rest := by
  rw [Instr.fill, hp]
  simp only
  rw [if_neg (by simp [hs]; omega)]
  congr 1
  have := fill_step off v.cells.toList 0 cells (by simp; omega)
  simp only [Nat.add_zero, Array.length_toList, hs] at this
  rw [← this, Array.toArray_toList, ← Array.toList_zipIdx, Array.foldl_toList]
section
variable {P : Program} {B : Nat} {cv : Nat → Option Value} {ob : Nat → Option O} {o : Oper} {a : Act} {w : World}
theorem cells_LRel {v : Value} {x : A} (h : Rel w cv v x) (hx : x ≠ .any) (hid : ∀ id, x.has id = true → ∃ u, cv id = some u) : LRel (Rel w cv) v.cells.toList x.cells :=
  let h' := cells_rel h hx hid
  LRel.of_array h'.1 h'.2
omit [XS] in
theorem hasAny_iff {id : Nat} : ∀ {l : List A}, A.hasAny id l = true ↔ ∃ x, x ∈ l ∧ x.has id = true
  | [] => by simp [A.hasAny]
  | y :: r => by
    simp only [A.hasAny]
    cases hy : y.has id
    · simp only [hasAny_iff (l := r)]
      constructor
      · rintro ⟨x, hx, h⟩; exact ⟨x, by simp [hx], h⟩
      · rintro ⟨x, hx, h⟩
        rcases List.mem_cons.1 hx with rfl | hx
        · rw [hy] at h; cases h
        · exact ⟨x, hx, h⟩
    · simp only [true_iff]; exact ⟨y, by simp, hy⟩
def LiveL (ob : Nat → Option O) (l : List A) : Prop := ∀ x, x ∈ l → Live ob x
omit [XS] in
theorem LiveL.cells {x : A} (h : Live ob x) : LiveL ob x.cells := by
  intro y hy id hid
  cases x with
  | agg cs => exact h id (by simp only [A.has]; exact hasAny_iff.2 ⟨y, hy, hid⟩)
  | _ =>
    simp only [A.cells, List.mem_singleton] at hy
    subst hy
    exact h id hid
omit [XS] in
theorem LiveL.agg {l : List A} (h : LiveL ob l) : Live ob (.agg l) := by
  intro id hid
  simp only [A.has] at hid
  obtain ⟨x, hx, h'⟩ := hasAny_iff.1 hid
  exact h x hx id h'
omit [XS] in
theorem LiveL.tup {l : List A} (h : LiveL ob l) : Live ob (.tup l) := by
  intro id hid
  simp only [A.has] at hid
  obtain ⟨x, hx, h'⟩ := hasAny_iff.1 hid
  exact h x hx id h'
omit [XS] in
theorem LiveL.fn {f : Nat} {l : List A} (h : LiveL ob l) : Live ob (.fn f l) := by
  intro id hid
  simp only [A.has] at hid
  obtain ⟨x, hx, h'⟩ := hasAny_iff.1 hid
  exact h x hx id h'
omit [XS] in
theorem Live.tupL {l : List A} (h : Live ob (.tup l)) : LiveL ob l := fun x hx id hid => h id (by simp only [A.has]; exact hasAny_iff.2 ⟨x, hx, hid⟩)
omit [XS] in
theorem Live.fnL {f : Nat} {l : List A} (h : Live ob (.fn f l)) : LiveL ob l := fun x hx id hid => h id (by simp only [A.has]; exact hasAny_iff.2 ⟨x, hx, hid⟩)
omit [XS] in
theorem LiveL.append {l r : List A} (h : LiveL ob l) (h' : LiveL ob r) : LiveL ob (l ++ r) := fun x hx => by
  rcases List.mem_append.1 hx with hx | hx
  · exact h x hx
  · exact h' x hx
omit [XS] in
theorem LiveL.take {l : List A} (h : LiveL ob l) (n : Nat) : LiveL ob (l.take n) := fun x hx => h x (List.mem_of_mem_take hx)
omit [XS] in
theorem LiveL.drop {l : List A} (h : LiveL ob l) (n : Nat) : LiveL ob (l.drop n) := fun x hx => h x (List.mem_of_mem_drop hx)
omit [XS] in
theorem LiveL.getD {l : List A} (h : LiveL ob l) (j : Nat) : Live ob (l.getD j .any) := by
  intro id hid
  exact h _ (by
    simp only [List.getD] at hid ⊢
    cases hj : l[j]? with
    | none => simp [hj, A.has] at hid
    | some x => simp; exact List.mem_of_getElem? hj) id hid
omit [XS] in
theorem known_ne {x : A} (h : x.known = true) : x ≠ .any := by rintro rfl; cases h
theorem fillA_rel (fields : List (Nat × Nat)) (hm : MemOK B w cv ob) : ∀ (parts : List (Nat × Operand)) (get : Nat → A) (cells : Array Value) (xs : List A) (out : List A), Slots w cv ob a get →
    LRel (Rel w cv) cells.toList xs → LiveL ob xs →
    fillA fields xs (parts.map fun p => (p.1, opd get p.2)) = some out →
    ∃ res, Instr.fill (fields.toArray[·]?) cells (parts.map fun p => (p.1, a.eval p.2)) = some res ∧ LRel (Rel w cv) res.toList out ∧ LiveL ob out
  | [], get, cells, xs, out, _, hr, hl, h => by
    simp only [List.map_nil, fillA, Option.some.injEq] at h
    subst h
    exact ⟨cells, rfl, hr, hl⟩
  | (i, x) :: rest, get, cells, xs, out, hs, hr, hl, h => by
    simp only [List.map_cons, fillA] at h
    split at h
    · cases h
    · rename_i off size hf
      split at h
      · rename_i hb1 hb2
        simp only [Bool.and_eq_true] at hb1
        have e1 := Nat.eq_of_beq_eq_true hb1.2
        have e2 : off + size ≤ xs.length := Nat.le_of_ble_eq_true hb2
        have hx := hs.opd x
        have hc := cells_LRel hx.1 (known_ne hb1.1) fun id hid => hm.live (hx.2 id hid)
        have hsz : (a.eval x).cells.size = size := by have := hc.len; simp at this; omega
        have hcl : cells.size = xs.length := by have := hr.len; simpa using this
        have step := run_fill1 (fields.toArray[·]?) cells i off size (a.eval x) (rest.map fun p => (p.1, a.eval p.2)) (by simpa using hf) hsz (by omega)
        obtain ⟨res, h1, h2, h3⟩ := fillA_rel fields hm rest get (cells.toList.take off ++ (a.eval x).cells.toList ++ cells.toList.drop (off + size)).toArray
          (xs.take off ++ (opd get x).cells ++ xs.drop (off + size)) out hs (by simpa using ((hr.take off).append hc).append (hr.drop _))
          (((hl.take _).append (LiveL.cells hx.2)).append (hl.drop _)) h
        exact ⟨res, by rw [List.map_cons, step]; exact h1, h2, h3⟩
      · cases h
theorem zeros_LRel {z : Array Value} {xs : List A} (h : zerosOk z.toList xs = true) : LRel (Rel w cv) z.toList xs ∧ LiveL ob xs := by
  have := zerosOk_rel w (Sx w cv) h
  refine ⟨⟨this.1, fun j hj => .data (this.2 j hj).1⟩, fun x hx id hid => ?_⟩
  have h2 := zeros_has h id
  rw [hasAny_iff.2 ⟨x, hx, hid⟩] at h2
  cases h2
theorem q_build {cfg : Cfg} (hc : CfgOK P cfg) {t : Nat} {ti : TI} (ht : cfg.tt t = some ti) {parts : Array (Nat × Operand)} (ho : o.op = .build t parts)
    {get : Nat → A} (hs : Slots w cv ob a get) (hm : MemOK B w cv ob) {cs : List A} (hf : ti.fields ≠ []) (h : fillA ti.fields ti.zero (parts.toList.map fun p => (p.1, opd get p.2)) = some cs) :
    QSound P B cv ob o a w (.agg cs) [] := by
  obtain ⟨i, d, z, hi, hu, hsz, hb, hz, hzz, hag, hzl, hza, hz1⟩ := (hc.tt t ti ht).info
  obtain ⟨fs, hfs, hpl, _⟩ := (hc.tt t ti ht).fields hf
  have hzr := zeros_LRel (w := w) (cv := cv) (ob := ob) hzz
  obtain ⟨res, h1, h2, h3⟩ := fillA_rel ti.fields hm parts.toList get z.cells ti.zero cs hs hzr.1 hzr.2 h
  have hbuilt : P.built t (parts.map fun p => (p.1, a.eval p.2)).toList = some res := by
    unfold Program.built
    rw [hi, hfs]
    simp only [hz, hpl]
    simpa using h1
  refine QSound.value (.agg res) w ?_ (Grow.refl w) ?_ (LiveL.agg h3) hm
  · simp only [execOp, ho]
    simp only [Sem.run_bind, run_build w t _ res hbuilt, Result.andThen_ok]
    rfl
  · have := h2.to_array
    exact .agg this.1 this.2
omit [XS] in
theorem add_off (b o n : Nat) : (⟨b, o, none⟩ : Addr).add n = ⟨b, o + n, none⟩ := by unfold Addr.add; split <;> simp_all
omit [XS] in
theorem run_isAgg {t : Nat} {d : TypeDesc} (hu : P.underlying t = some d) : (isAgg t).run P w = .ok (aggDesc d) w := by
  simp only [isAgg, Sem.run_bind, run_underlying hu, Result.andThen_ok]
  cases d <;> rfl
omit [XS] in
theorem run_load_at {cfg : Cfg} (hc : CfgOK P cfg) {t : Nat} {ti : TI} (ht : cfg.tt t = some ti) {b off : Nat} {vs : List Value} (hl : vs.length = ti.size)
    (hcell : ∀ j, j < vs.length → w.cell? ⟨b, off + j, none⟩ = some (vs.getD j undef)) :
    (loadVar t ⟨b, off, none⟩).run P w = .ok (match ti.agg with | true => .agg vs.toArray | false => vs.getD 0 undef) w := by
  obtain ⟨i, d, z, hi, hu, hsz, hb, hz, hzz, hag, hzl, hza, hz1⟩ := (hc.tt t ti ht).info
  unfold loadVar
  simp only [Sem.run_bind, run_isAgg hu, Result.andThen_ok]
  rw [← hag]
  cases hagg : ti.agg
  · simp only [Bool.false_eq_true, if_false]
    have h1 := hcell 0 (by rw [hl, hz1 hagg]; omega)
    simp only [Nat.add_zero] at h1
    rw [run_load, h1]
  · simp only [if_true, Sem.run_bind, run_sizeOf hi, Result.andThen_ok]
    rw [hsz, ← hl, run_loadCells_list w ⟨b, off, none⟩ vs (fun j v hv => by
      have hj : j < vs.length := (List.getElem?_eq_some_iff.1 hv).1
      rw [add_off, hcell j hj]
      simp [List.getD, hv])]
    rfl
omit [XS] in
theorem takeCells_rel {R : Value → A → Prop} {vs : List Value} {xs : List A} {off size : Nat} {agg : Bool} {x : A} (hr : LRel R vs xs) (h : takeCells xs off size agg = some x) (h1 : agg = false → size = 1) :
    ∃ us : List Value, us.length = size ∧ (∀ j, j < size → off + j < vs.length ∧ us.getD j undef = vs.getD (off + j) undef) ∧
      (agg = true → ∃ ys, x = .agg ys ∧ LRel R us ys ∧ (∀ y, y ∈ ys → y ∈ xs)) ∧ (agg = false → R (us.getD 0 undef) x ∧ x ∈ xs) := by
  unfold takeCells at h
  cases agg
  · simp only at h
    obtain ⟨hlt, hv⟩ := List.getElem?_eq_some_iff.1 h
    have := hr.at_ off hlt
    simp only [List.getD, h, Option.getD_some] at this
    refine ⟨[vs.getD off undef], by simp [h1 rfl], fun j hj => ?_, (fun e => by cases e), fun _ => ⟨this, List.mem_of_getElem? h⟩⟩
    have e : j = 0 := by rw [h1 rfl] at hj; omega
    subst e
    exact ⟨by rw [hr.len]; omega, rfl⟩
  · simp only at h
    cases hb : Nat.ble (off + size) xs.length
    · rw [hb] at h; cases h
    · rw [hb] at h
      have e := Nat.le_of_ble_eq_true hb
      injection h with h
      subst h
      refine ⟨(vs.drop off).take size, by simp [hr.len]; omega, fun j hj => ⟨by rw [hr.len]; omega, ?_⟩, fun _ => ⟨_, rfl, (hr.drop off).take size, fun y hy => List.mem_of_mem_drop (List.mem_of_mem_take hy)⟩, (fun e => by cases e)⟩
      rw [getD_take _ _ _ _ hj, getD_drop]
theorem load_run {cfg : Cfg} (hc : CfgOK P cfg) {t : Nat} {ti : TI} (ht : cfg.tt t = some ti) {pv : Value}
    {obj : Nat → Option O} (hob : ∀ i o', obj i = some o' → ob i = some o') (hm : MemOK B w cv ob) {ax r : A} (hx : Rel w cv pv ax) (hl : Live ob ax)
    (h : loadA obj ti ax = some r) : ∃ b off v, pv = .pointer (some ⟨b, off, none⟩) ∧ (loadVar t ⟨b, off, none⟩).run P w = .ok v w ∧ Rel w cv v r ∧ Live ob r := by
  obtain ⟨i, d, z, hi, hu, hsz, hb, hz, hzz, hag, hzl, hza, hz1⟩ := (hc.tt t ti ht).info
  have key : ∀ (b o0 off : Nat) (vs : List Value) (xs : List A), pv = .pointer (some ⟨b, o0 + off, none⟩) → LRel (Rel w cv) vs xs → (∀ j, j < vs.length → w.cell? ⟨b, o0 + j, none⟩ = some (vs.getD j undef)) →
      LiveL ob xs → takeCells xs off ti.size ti.agg = some r → ∃ b off v, pv = .pointer (some ⟨b, off, none⟩) ∧ (loadVar t ⟨b, off, none⟩).run P w = .ok v w ∧ Rel w cv v r ∧ Live ob r := by
    intro b o0 off vs xs he hr hcell hlv htk
    obtain ⟨us, hul, hua, hrt, hrf⟩ := takeCells_rel hr htk hz1
    have hload := run_load_at (w := w) hc ht (b := b) (off := o0 + off) (vs := us) hul (fun j hj => by
      have := hua j (by omega)
      rw [this.2, Nat.add_assoc]
      exact hcell _ this.1)
    refine ⟨b, o0 + off, _, he, hload, ?_, ?_⟩
    · cases hagg : ti.agg
      · exact (hrf hagg).1
      · obtain ⟨ys, rfl, hy, _⟩ := hrt hagg
        exact .agg (by simpa using hy.len) (fun j hj => by have := hy.at_ j hj; rwa [← toList_getD])
    · cases hagg : ti.agg
      · exact hlv _ (hrf hagg).2
      · obtain ⟨ys, rfl, hy, hmem⟩ := hrt hagg
        exact LiveL.agg fun y hy' => hlv y (hmem y hy')
  unfold loadA at h
  split at h
  · rename_i id off
    split at h
    · rename_i cs hid
      have hid' := hob _ _ hid
      obtain ⟨b, vs, E, hcv, hheap, hvs, hrel⟩ := (hm.obj id _ hid').1
      obtain ⟨b', hb', he⟩ := hx.ptr_inv hcv
      injection hb' with hb'; injection hb' with hb'; injection hb' with hb'; subst hb'
      refine key b 0 off vs.toList cs (by simpa using he) (LRel.of_array hvs hrel) (fun j hj => ?_) ?_ h
      · rw [toList_getD, Nat.zero_add, cell_of_row w b j vs E (0, 0) hheap]
        simp at hj; simp [Array.getD, hj]
      · intro y hy id' hid''
        exact (hm.obj id _ hid').2 id' (by simp only [O.has]; exact hasAny_iff.2 ⟨y, hy, hid''⟩)
    · cases h
  · rename_i id esz i' off
    split at h
    · rename_i e' esz' l get hid
      split at h
      · rename_i hbeq
        have eq := Nat.eq_of_beq_eq_true hbeq
        subst eq
        have hid' := hob _ _ hid
        obtain ⟨v, E, xs, hcv, hown, hE, hpos, hlen, hcell⟩ := (hm.obj id _ hid').1
        obtain ⟨b, l', c', hvu, hil, he⟩ := hx.rpt_inv hcv
        subst hvu
        obtain ⟨hxl, hown⟩ := hown
        rcases hown with ⟨hnil, _⟩ | ⟨g, cap, cur, hv, hg, hheap, hle, hmax, hcs, htake⟩
        · cases hnil
        · injection hv with hv1 hv2 hv3
          injection hv1 with hv1; injection hv1 with hv1
          subst hv1 hv2 hv3
          refine key b (i' * esz) off ((xs.drop (i' * esz)).take esz) (get i').cells he ⟨?_, fun j hj => ?_⟩ (fun j hj => ?_) ?_ h
          · rw [hlen i' hil]
            simp only [List.length_take, List.length_drop, hxl]
            have : (i' + 1) * esz ≤ l' * esz := Nat.mul_le_mul_right _ hil
            rw [Nat.add_mul, Nat.one_mul] at this
            omega
          · rw [hlen i' hil] at hj
            rw [getD_take _ _ _ _ hj, getD_drop]
            exact .data (hcell i' j hil hj).2
          · have hjl : j < esz := by simp at hj; omega
            rw [getD_take _ _ _ _ hjl, getD_drop, cell_of_row w b _ cur E (0, 0) hheap]
            have hlt : i' * esz + j < l' * esz := by
              have : (i' + 1) * esz ≤ l' * esz := Nat.mul_le_mul_right _ hil
              rw [Nat.add_mul, Nat.one_mul] at this
              omega
            have : xs[i' * esz + j]? = cur[i' * esz + j]? := by
              rw [← htake, List.getElem?_take, if_pos hlt]; simp
            simp only [List.getD, this]
            have hlt2 : i' * esz + j < cur.size := by
              have : l' * esz ≤ c' * esz := Nat.mul_le_mul_right _ hle
              omega
            simp [Array.getElem?_eq_getElem hlt2]
          · intro y hy id' hid''
            exfalso
            obtain ⟨j, hj⟩ := List.mem_iff_getElem?.1 hy
            have hjl : j < (get i').cells.length := (List.getElem?_eq_some_iff.1 hj).1
            have hd := (hcell i' j hil (by rw [hlen i' hil] at hjl; exact hjl)).2
            simp only [List.getD, hj, Option.getD_some] at hd
            exact absurd hid'' (by rw [hd.noHas id']; decide)
      · cases h
    · rename_i esz' l cs hid
      split at h
      · rename_i hbeq hble
        have eq := Nat.eq_of_beq_eq_true hbeq
        subst eq
        have hid' := hob _ _ hid
        obtain ⟨v, E, xs, hcv, hown, hEe, hpos, hlen, ⟨p0, c0, hv0⟩, hcell⟩ := (hm.obj id _ hid').1
        obtain ⟨b, l', c', hvu, hil, he⟩ := hx.rpt_inv hcv
        rw [hvu] at hv0
        injection hv0 with _ hl0 _
        subst hvu hl0
        obtain ⟨hxl, hown⟩ := hown
        rcases hown with ⟨hnil, _⟩ | ⟨g, cap, cur, hv, hg, hheap, hle, hmax, hcs, htake⟩
        · cases hnil
        · injection hv with hv1 hv2 hv3
          injection hv1 with hv1; injection hv1 with hv1
          subst hv1 hv3
          refine key b 0 (i' * esz + off) xs cs (by rw [he, Nat.zero_add]) ⟨by rw [hxl, hlen], fun j hj => hcell j hj⟩ (fun j hj => ?_) ?_ h
          · rw [cell_of_row w b _ cur E (0, 0) hheap, Nat.zero_add]
            rw [hxl] at hj
            have : xs[j]? = cur[j]? := by rw [← htake, List.getElem?_take, if_pos hj]; simp
            simp only [List.getD, this]
            have hlt2 : j < cur.size := by
              have : l' * esz ≤ c' * esz := Nat.mul_le_mul_right _ hle
              omega
            simp [Array.getElem?_eq_getElem hlt2]
          · intro y hy id' hid''
            exact (hm.obj id _ hid').2 id' (by simp only [O.has]; exact hasAny_iff.2 ⟨y, hy, hid''⟩)
      · cases h
    · cases h
  · rename_i d' off
    have hd := hx.rop_inv
    cases pv with
    | pointer p =>
      cases hd with
      | @rop b o0 off' d'' f hS hcell hrel =>
        refine key b o0 off ((List.range d'.cells.length).map f) d'.cells rfl ⟨by simp, fun j hj => ?_⟩ (fun j hj => ?_) ?_ h
        · simp only [List.getD, List.getElem?_map, List.getElem?_range hj, Option.map_some, Option.getD_some]
          exact .data (hrel j hj)
        · have hj' : j < d'.cells.length := by simpa using hj
          rw [hcell j hj']
          simp [List.getD, List.getElem?_range hj']
        · intro y hy id' hid''
          exfalso
          obtain ⟨j, hj⟩ := List.mem_iff_getElem?.1 hy
          have hjl : j < d'.cells.length := (List.getElem?_eq_some_iff.1 hj).1
          have hd := hrel j hjl
          simp only [List.getD, hj, Option.getD_some] at hd
          exact absurd hid'' (by rw [hd.noHas id']; decide)
    | _ => cases hd
  · cases h
theorem q_load {cfg : Cfg} (hc : CfgOK P cfg) {t : Nat} {ti : TI} (ht : cfg.tt t = some ti) {x : Operand} (ho : o.op = .load t x)
    {obj : Nat → Option O} (hob : ∀ i o', obj i = some o' → ob i = some o') (hm : MemOK B w cv ob) {ax r : A} (hx : Rel w cv (a.eval x) ax) (hl : Live ob ax)
    (h : loadA obj ti ax = some r) : QSound P B cv ob o a w r [] := by
  obtain ⟨b, off, v, he, hrun, hr, hlr⟩ := load_run (P := P) hc ht hob hm hx hl h
  exact QSound.value v w (by simp only [execOp, ho, Instr.loadAt, he, Instr.sureAddr, Sem.run_bind, Sem.run_pure, Result.andThen_ok, hrun]) (Grow.refl w) hr hlr hm
end
end Go.Fw

/-
  The operations, continued: arithmetic, conversions, places, slices.
-/
namespace Go.Fw
variable [XS]
open Go.RowKit (Below)
section
variable {P : Program} {B : Nat} {cv : Nat → Option Value} {ob : Nat → Option O} {o : Oper} {a : Act} {w : World}
omit [XS] in
theorem execOp_binOp {op : BinOp} {t t' : Nat} {x y : Operand} (ho : o.op = .binOp op t x y t') (he : (eqGuard op t x y (a.eval x) (a.eval y)).run P w = .ok () w) {v : Value} {w' : World}
    (hr : (binOp op t (a.eval x) (a.eval y)).run P w = .ok v w') : (execOp a.eval o).run P w = .ok (.value v) w' := by
  simp only [execOp, ho, Sem.run_bind, he, Result.andThen_ok, hr]
  rfl
omit [XS] in
theorem live_bool (b : Bool) : Live ob (.bool b) := live_none fun _ => rfl
omit [XS] in
theorem live_int (k : IntKind) (n : Int) : Live ob (.int k n) := live_none fun _ => rfl
omit [XS] in
theorem live_flt (k : FloatKind) (n : Nat) : Live ob (.flt k n) := live_none fun _ => rfl
omit [XS] in
theorem live_cpx (k : FloatKind) (n m : Nat) : Live ob (.cpx k n m) := live_none fun _ => rfl
theorem q_shr {t t' : Nat} {x y : Operand} (ho : o.op = .binOp .shr t x y t') {k k' : IntKind} {n m : Int} (hx : a.eval x = .int k n) (hy : a.eval y = .int k' m) (hm : MemOK B w cv ob)
    (hc : decide (0 ≤ m) = true) : QSound P B cv ob o a w (.int k (shrI k n m)) [] := by
  have hmn : ¬ m < 0 := by have := of_decide_eq_true hc; omega
  have heq : (eqGuard .shr t x y (a.eval x) (a.eval y)).run P w = .ok () w := by rw [hx, hy]; rfl
  refine QSound.value (.int k (shrI k n m)) w (execOp_binOp ho heq ?_) (Grow.refl w) (.data (.int _ _)) (live_int _ _) hm
  rw [hx, hy, shrI_eq]
  simp [binOp, Op.shift, hmn, shrC]
theorem q_and {t t' : Nat} {x y : Operand} (ho : o.op = .binOp .and t x y t') {k : IntKind} {n m : Int} (hx : a.eval x = .int k n) (hy : a.eval y = .int k m) (hm : MemOK B w cv ob) : QSound P B cv ob o a w (.int k (bandI k n m)) [] := by
  have heq : (eqGuard .and t x y (a.eval x) (a.eval y)).run P w = .ok () w := by rw [hx, hy]; rfl
  refine QSound.value (.int k (bandI k n m)) w (execOp_binOp ho heq ?_) (Grow.refl w) (.data (.int _ _)) (live_int _ _) hm
  rw [hx, hy, bandI_eq]
  simp [binOp, Op.intBits, bandC]
theorem q_int {op : BinOp} {t t' : Nat} {x y : Operand} (ho : o.op = .binOp op t x y t') {k : IntKind} {n m : Int} (hx : a.eval x = .int k n) (hy : a.eval y = .int k m) (hm : MemOK B w cv ob)
    {c : Bool} {r : A} (h : intArith op k n m = some (c, r)) (hc : c = true) : QSound P B cv ob o a w r [] := by
  have heq : (eqGuard op t x y (a.eval x) (a.eval y)).run P w = .ok () w := by rw [hx, hy]; cases op <;> rfl
  have fin : ∀ v, (binOp op t (a.eval x) (a.eval y)).run P w = .ok v w → Rel w cv v r → Live ob r → QSound P B cv ob o a w r [] :=
    fun v hr h1 h2 => QSound.value v w (execOp_binOp ho heq hr) (Grow.refl w) h1 h2 hm
  rw [hx, hy] at fin
  have ints : ∀ op', op = op' → (op' = .add ∨ op' = .sub ∨ op' = .mul) → ∀ z, (Op.intArith op' k n m).run P w = .ok (.int k z) w → r = .int k z → QSound P B cv ob o a w r [] := by
    intro op' e hop z hz hr
    subst e hr
    refine fin _ ?_ (.data (.int _ _)) (live_int _ _)
    rw [← hz]
    rcases hop with rfl | rfl | rfl <;> simp [binOp]
  have cmps : ∀ op', op = op' → (op' = .eql ∨ op' = .neq ∨ op' = .lss ∨ op' = .leq ∨ op' = .gtr ∨ op' = .geq) → ∀ z, (Op.intCmp op' n m).run P w = .ok (.bool z) w → r = .bool z → QSound P B cv ob o a w r [] := by
    intro op' e hop z hz hr
    subst e hr
    refine fin _ ?_ (.data (.bool _)) (live_bool _)
    rw [← hz]
    rcases hop with rfl | rfl | rfl | rfl | rfl | rfl <;> simp [binOp]
  have divs : ∀ op', op = op' → (op' = .quo ∨ op' = .rem) → ∀ z, (Op.intDiv op' k n m).run P w = .ok (.int k z) w → r = .int k z → QSound P B cv ob o a w r [] := by
    intro op' e hop z hz hr
    subst e hr
    refine fin _ ?_ (.data (.int _ _)) (live_int _ _)
    rw [← hz]
    rcases hop with rfl | rfl <;> simp [binOp]
  cases op <;> simp only [intArith, Option.some.injEq, Prod.mk.injEq, reduceCtorEq] at h <;> obtain ⟨h1, h2⟩ := h
  case shr => subst h2; exact q_shr ho hx hy hm (h1.trans hc)
  case and => subst h2; exact q_and ho hx hy hm
  case andNot => subst h2; exact fin (.int k (bclr k n m)) (by rw [bclr_eq]; simp [binOp, Op.intBits, bclrC]) (.data (.int _ _)) (live_int _ _)
  case add => exact ints _ rfl (by simp) _ rfl h2.symm
  case sub => exact ints _ rfl (by simp) _ rfl h2.symm
  case mul => exact ints _ rfl (by simp) _ rfl h2.symm
  case quo =>
    have hz : ¬ m = 0 := by rw [← h1] at hc; simpa using hc
    exact divs _ rfl (by simp) _ (by simp [Op.intDiv, hz]) h2.symm
  case rem =>
    have hz : ¬ m = 0 := by rw [← h1] at hc; simpa using hc
    exact divs _ rfl (by simp) _ (by simp [Op.intDiv, hz]) h2.symm
  all_goals exact cmps _ rfl (by simp) _ rfl h2.symm
theorem q_flt {op : BinOp} {t t' : Nat} {x y : Operand} (ho : o.op = .binOp op t x y t') {k : FloatKind} {b1 b2 n m : Nat} (hx : a.eval x = .float k b1) (hy : a.eval y = .float k b2)
    (h1 : FR k b1 n) (h2 : FR k b2 m) (hm : MemOK B w cv ob) {r : A} (h : fltArith op k n m = some r) : QSound P B cv ob o a w r [] := by
  have heq : (eqGuard op t x y (a.eval x) (a.eval y)).run P w = .ok () w := by rw [hx, hy]; cases op <;> rfl
  have arith : ∀ op', op = op' → (op' = .add ∨ op' = .sub ∨ op' = .mul ∨ op' = .quo) → QSound P B cv ob o a w (.flt k (fop op' k n m)) [] := by
    intro op' e hop
    subst e
    obtain ⟨r, w', hr, hd, hf⟩ := run_floatArith (P := P) (w := w) h1 h2 hop
    refine QSound.value' (.float k r) w' (execOp_binOp ho heq ?_) (Grow.of_drew hd) (.data (.flt hf)) (live_flt _ _)
    rw [hx, hy]
    rcases hop with rfl | rfl | rfl | rfl <;> simpa [binOp] using hr
  have hord := order_FR h1 h2
  have fin : ∀ v, (binOp op t (a.eval x) (a.eval y)).run P w = .ok v w → Rel w cv v r → Live ob r → QSound P B cv ob o a w r [] :=
    fun v hr h1 h2 => QSound.value v w (execOp_binOp ho heq hr) (Grow.refl w) h1 h2 hm
  rw [hx, hy] at fin
  have cmps : ∀ op', op = op' → (op' = .eql ∨ op' = .neq ∨ op' = .lss ∨ op' = .leq ∨ op' = .gtr ∨ op' = .geq) → ∀ z, (Op.floatCmp op' k b1 b2).run P w = .ok (.bool z) w → r = .bool z → QSound P B cv ob o a w r [] := by
    intro op' e hop z hz hr
    subst e hr
    refine fin _ ?_ (.data (.bool _)) (live_bool _)
    rw [← hz]
    rcases hop with rfl | rfl | rfl | rfl | rfl | rfl <;> simp [binOp]
  cases op <;> simp only [fltArith, Option.some.injEq, reduceCtorEq] at h
  case add => subst h; exact arith _ rfl (by simp)
  case sub => subst h; exact arith _ rfl (by simp)
  case mul => subst h; exact arith _ rfl (by simp)
  case quo => subst h; exact arith _ rfl (by simp)
  all_goals exact cmps _ rfl (by simp) _ rfl (by rw [hord]; exact h.symm)
omit [XS] in
theorem run_part_flt {e : TypeId} {k : FloatKind} (he : P.underlying e = some (.float k)) {cs : Array Value} {off : Nat} {v : Value} (hx : cs[off]? = some v) : (part e cs off).run P w = .ok v w := by
  simp [part, isAgg, run_underlying he, hx]
omit [XS] in
theorem run_equalIn_flt (d : Nat) {e : TypeId} {k : FloatKind} (he : P.underlying e = some (.float k)) (x y : Nat) : (Op.equalIn (d + 1) e (.float k x) (.float k y)).run P w = .ok (Op.floatEq k x y) w := by
  simp [Op.equalIn, run_underlying he]
omit [XS] in
theorem run_eq_v3 {t : Nat} (hv : V3OK P t) {vs us : Array Value} {x y z p q r : Nat} (h0 : vs[0]? = some (.float .f32 x)) (h1 : vs[1]? = some (.float .f32 y)) (h2 : vs[2]? = some (.float .f32 z))
    (g0 : us[0]? = some (.float .f32 p)) (g1 : us[1]? = some (.float .f32 q)) (g2 : us[2]? = some (.float .f32 r)) :
    (Op.equalIn 10000 t (.agg vs) (.agg us)).run P w = .ok (Op.floatEq .f32 x p && (Op.floatEq .f32 y q && Op.floatEq .f32 z r)) w := by
  obtain ⟨fs, f, g, h, hu, hl, ⟨n1, n2, n3⟩, ⟨o1, o2, o3⟩, ⟨u1, u2, u3⟩, hs, _⟩ := hv.ok
  have hf : P.fieldsOf t = fs := by unfold Program.fieldsOf; rw [hu]
  rw [run_equalIn_struct w 9999 t vs us (by rw [hf]; exact hu) hs, hf, hl]
  have e0 := run_part_flt (w := w) u1 (cs := vs) (off := f.offset) (by rw [o1]; exact h0)
  have e1 := run_part_flt (w := w) u1 (cs := us) (off := f.offset) (by rw [o1]; exact g0)
  have e2 := run_part_flt (w := w) u2 (cs := vs) (off := g.offset) (by rw [o2]; exact h1)
  have e3 := run_part_flt (w := w) u2 (cs := us) (off := g.offset) (by rw [o2]; exact g1)
  have e4 := run_part_flt (w := w) u3 (cs := vs) (off := h.offset) (by rw [o3]; exact h2)
  have e5 := run_part_flt (w := w) u3 (cs := us) (off := h.offset) (by rw [o3]; exact g2)
  have q0 : (Op.equalIn 9999 f.type (.float .f32 x) (.float .f32 p)).run P w = .ok (Op.floatEq .f32 x p) w := run_equalIn_flt (w := w) 9998 u1 x p
  have q1 : (Op.equalIn 9999 g.type (.float .f32 y) (.float .f32 q)).run P w = .ok (Op.floatEq .f32 y q) w := run_equalIn_flt (w := w) 9998 u2 y q
  have q2 : (Op.equalIn 9999 h.type (.float .f32 z) (.float .f32 r)).run P w = .ok (Op.floatEq .f32 z r) w := run_equalIn_flt (w := w) 9998 u3 z r
  have run_if : ∀ (c : Bool) (m : Sem Bool) (b' : Bool), (m.run P w = .ok b' w) → (if (!c) = true then (pure false : Sem Bool) else m).run P w = .ok (c && b') w := fun c m b' hm => by
    cases c
    · simp
    · simp [hm]
  have l3 : (Op.eqFields 9999 vs us []).run P w = .ok true w := by simp [Op.eqFields]
  have l2 : (Op.eqFields 9999 vs us [h]).run P w = .ok (Op.floatEq .f32 z r) w := by
    have := run_if (Op.floatEq .f32 z r) _ true l3
    rw [Bool.and_true] at this
    rw [Op.eqFields, if_pos n3]
    simp only [Sem.run_bind, e4, e5, q2, Result.andThen_ok]
    exact this
  have l1 : (Op.eqFields 9999 vs us [g, h]).run P w = .ok (Op.floatEq .f32 y q && Op.floatEq .f32 z r) w := by
    have := run_if (Op.floatEq .f32 y q) _ _ l2
    rw [Op.eqFields, if_pos n2]
    simp only [Sem.run_bind, e2, e3, q1, Result.andThen_ok]
    exact this
  have := run_if (Op.floatEq .f32 x p) _ _ l1
  rw [Op.eqFields, if_pos n1]
  simp only [Sem.run_bind, e0, e1, q0, Result.andThen_ok]
  exact this
theorem Rel.v3_inv {v : Value} {x y z : Nat} (h : Rel w cv v (.agg [.flt .f32 x, .flt .f32 y, .flt .f32 z])) : ∃ (vs : Array Value) (a b c : Nat), v = .agg vs ∧ vs[0]? = some (.float .f32 a) ∧ vs[1]? = some (.float .f32 b) ∧ vs[2]? = some (.float .f32 c) ∧ FR .f32 a x ∧ FR .f32 b y ∧ FR .f32 c z := by
  obtain ⟨vs, rfl, hs, hr⟩ := h.agg_inv
  obtain ⟨a, e1, f1⟩ := (hr 0 (show 0 < 3 by omega)).flt_inv
  obtain ⟨b, e2, f2⟩ := (hr 1 (show 1 < 3 by omega)).flt_inv
  obtain ⟨c, e3, f3⟩ := (hr 2 (show 2 < 3 by omega)).flt_inv
  have hs' : vs.size = 3 := hs
  have gd : ∀ j, j < 3 → vs[j]? = some (vs.getD j undef) := fun j hj => by simp [Array.getD, hs', hj]
  exact ⟨vs, a, b, c, rfl, by rw [gd 0 (by omega), e1], by rw [gd 1 (by omega), e2], by rw [gd 2 (by omega), e3], f1, f2, f3⟩
theorem q_binOp {cfg : Cfg} (hc : CfgOK P cfg) {op : BinOp} {t t' : Nat} {x y : Operand} (ho : o.op = .binOp op t x y t') {ax ay : A} (hx : Rel w cv (a.eval x) ax) (hy : Rel w cv (a.eval y) ay)
    (hm : MemOK B w cv ob) {c : Bool} {r : A} (h : binA cfg.tt op t ax ay = some (c, r)) (hct : c = true) : QSound P B cv ob o a w r [] := by
  unfold binA at h
  split at h
  · split at h
    · rename_i he
      have := of_decide_eq_true he
      subst this
      exact q_int ho hx.int_inv hy.int_inv hm h hct
    · split at h
      · injection h with h
        injection h with h1 h2
        subst h2
        exact q_shr ho hx.int_inv hy.int_inv hm (h1.trans hct)
      · cases h
  · split at h
    · rename_i he
      have := of_decide_eq_true he
      subst this
      split at h
      · rename_i r' hr
        injection h with h
        injection h with h1 h2
        subst h2
        obtain ⟨b1, e1, f1⟩ := hx.flt_inv
        obtain ⟨b2, e2, f2⟩ := hy.flt_inv
        exact q_flt ho e1 e2 f1 f2 hm hr
      · cases h
    · cases h
  · split at h
    · rename_i he
      have := of_decide_eq_true he
      subst this
      obtain ⟨b1, c1, e1, f1, g1⟩ := hx.cpx_inv
      obtain ⟨b2, c2, e2, f2, g2⟩ := hy.cpx_inv
      have ho1 := order_FR f1 f2
      have ho2 := order_FR g1 g2
      split at h
      · injection h with h
        injection h with h1 h2
        subst h2
        refine QSound.value (.bool _) w (execOp_binOp ho (by rw [e1, e2]; rfl) ?_) (Grow.refl w) (.data (.bool _)) (live_bool _) hm
        rw [e1, e2, ← ho1, ← ho2]
        simp [binOp, Op.complexOp, Op.Complex.cmp, asBool, Op.floatCmp]
      · injection h with h
        injection h with h1 h2
        subst h2
        refine QSound.value (.bool _) w (execOp_binOp ho (by rw [e1, e2]; rfl) ?_) (Grow.refl w) (.data (.bool _)) (live_bool _) hm
        rw [e1, e2, ← ho1, ← ho2]
        simp [binOp, Op.complexOp, Op.Complex.cmp, asBool, Op.floatCmp]
      · cases h
    · cases h
  · rename_i x' y'
    split at h
    · rename_i ti ht
      split at h
      · rename_i hb
        have hu := (hc.tt t ti ht).isBool hb
        have ex := hx.bool_inv
        have ey := hy.bool_inv
        split at h
        · injection h with h
          injection h with h1 h2
          subst h2
          refine QSound.value (.bool (x' == y')) w (execOp_binOp ho (by rw [ex, ey]; rfl) ?_) (Grow.refl w) (.data (.bool _)) (live_bool _) hm
          rw [ex, ey]
          exact run_eql_bool w t x' y' hu
        · injection h with h
          injection h with h1 h2
          subst h2
          refine QSound.value (.bool (!(x' == y'))) w (execOp_binOp ho (by rw [ex, ey]; rfl) ?_) (Grow.refl w) (.data (.bool _)) (live_bool _) hm
          rw [ex, ey]
          exact run_neq_bool w t x' y' hu
        · cases h
      · cases h
    · cases h
  · rename_i k1 x1 k2 x2 k3 x3 l1 y1 l2 y2 l3 y3
    split at h
    · rename_i ti ht
      split at h
      · rename_i hb
        simp only [Bool.and_eq_true, decide_eq_true_eq] at hb
        obtain ⟨hv, rfl, rfl, rfl, rfl, rfl, rfl⟩ := hb
        have hV := (hc.tt t ti ht).v3 hv
        obtain ⟨vs, a1, a2, a3, ex, p1, p2, p3, f1, f2, f3⟩ := hx.v3_inv
        obtain ⟨us, b1, b2, b3, ey, q1, q2, q3, g1, g2, g3⟩ := hy.v3_inv
        have hr := run_eq_v3 (w := w) hV p1 p2 p3 q1 q2 q3
        have hg : P.eqGuardType P.depth t = false := by
          obtain ⟨_, _, _, _, _, _, _, _, _, _, h9⟩ := hV.ok
          exact h9
        have fe : ∀ {u v x y : Nat}, FR .f32 u x → FR .f32 v y → Op.floatEq .f32 u v = (forder .f32 x y == some .eq) := fun hu hv => by
          unfold Op.floatEq; rw [order_FR hu hv]
        rw [fe f1 g1, fe f2 g2, fe f3 g3] at hr
        split at h
        · injection h with h
          injection h with h1 h2
          subst h2
          refine QSound.value (.bool _) w (execOp_binOp ho (by rw [ex, ey]; exact run_eqGuard_agg w _ _ _ _ _ _ hg) ?_) (Grow.refl w) (.data (.bool _)) (live_bool _) hm
          rw [ex, ey, run_eql_struct, hr]
          rfl
        · injection h with h
          injection h with h1 h2
          subst h2
          refine QSound.value (.bool _) w (execOp_binOp ho (by rw [ex, ey]; exact run_eqGuard_agg w _ _ _ _ _ _ hg) ?_) (Grow.refl w) (.data (.bool _)) (live_bool _) hm
          rw [ex, ey, run_neq_struct, hr]
          rfl
        · cases h
      · cases h
    · cases h
  · cases h
theorem q_unOp {op : UnOp} {t : Nat} {x : Operand} (ho : o.op = .unOp op t x) {ax r : A} (hx : Rel w cv (a.eval x) ax) (hm : MemOK B w cv ob) (h : unA op ax = some r) : QSound P B cv ob o a w r [] := by
  have fin : ∀ v, (Op.unary op (a.eval x)).run P w = .ok v w → Rel w cv v r → Live ob r → QSound P B cv ob o a w r [] :=
    fun v hr h1 h2 => QSound.value v w (by simp only [execOp, ho, Sem.run_bind, hr, Result.andThen_ok]; rfl) (Grow.refl w) h1 h2 hm
  unfold unA at h
  split at h
  · rename_i k n
    cases op <;> simp only [Option.some.injEq] at h <;> first | (cases h; done) | skip
    subst h
    rw [hx.int_inv] at fin
    exact fin (.int k (k.wrap (0 - n))) rfl (.data (.int _ _)) (live_int _ _)
  · rename_i k n
    cases op <;> simp only [Option.some.injEq] at h <;> first | (cases h; done) | skip
    subst h
    obtain ⟨b, e, f⟩ := hx.flt_inv
    rw [e] at fin
    exact fin _ rfl (.data (.flt (negFloat_FR f))) (live_flt _ _)
  · rename_i b
    cases op <;> simp only [Option.some.injEq] at h <;> first | (cases h; done) | skip
    subst h
    rw [hx.bool_inv] at fin
    exact fin _ rfl (.data (.bool _)) (live_bool _)
  · cases h
omit [XS] in
theorem conv_int_int {s d : Nat} {ds : TypeDesc} {k q : IntKind} {n : Int} (hs : P.underlying s = some ds) (hd : P.underlying d = some (.int k)) :
    (convert s d (.int q n)).run P w = (Conv.intToInt k n).run P w := by
  unfold convert
  simp only [Sem.run_bind, run_underlying hs, run_underlying hd, Result.andThen_ok]
omit [XS] in
theorem conv_int_flt {s d : Nat} {ds : TypeDesc} {k : FloatKind} {q : IntKind} {n : Int} (hs : P.underlying s = some ds) (hd : P.underlying d = some (.float k)) :
    (convert s d (.int q n)).run P w = (Conv.intToFloat k n).run P w := by
  unfold convert
  simp only [Sem.run_bind, run_underlying hs, run_underlying hd, Result.andThen_ok]
omit [XS] in
theorem conv_flt_flt {s d : Nat} {ds : TypeDesc} {k q : FloatKind} {b : Nat} (hs : P.underlying s = some ds) (hd : P.underlying d = some (.float k)) :
    (convert s d (.float q b)).run P w = (Conv.floatToFloat q b k).run P w := by
  unfold convert
  simp only [Sem.run_bind, run_underlying hs, run_underlying hd, Result.andThen_ok]
omit [XS] in
theorem conv_cpx {s d : Nat} {ds : TypeDesc} {k q : FloatKind} {b c : Nat} (hs : P.underlying s = some ds) (hd : P.underlying d = some (.complex k)) :
    (convert s d (.complex q b c)).run P w = (Conv.complexToComplex q b c k).run P w := by
  unfold convert
  simp only [Sem.run_bind, run_underlying hs, run_underlying hd, Result.andThen_ok]
end
end Go.Fw

/-
  The operations, continued: conversions, places, slices, new rows.
-/
namespace Go.Fw
variable [XS]
open Go.RowKit (Below)
section
variable {P : Program} {B : Nat} {cv : Nat → Option Value} {ob : Nat → Option O} {o : Oper} {a : Act} {w : World}
omit [XS] in
theorem TIOK.und {t : Nat} {ti : TI} (h : TIOK P t ti) : ∃ d, P.underlying t = some d := by
  obtain ⟨i, d, z, hi, hu, _⟩ := h.info
  exact ⟨d, hu⟩
theorem q_convert {cfg : Cfg} (hc : CfgOK P cfg) {s d : Nat} {x : Operand} (ho : o.op = .convert s d x) {ax : A} (hx : Rel w cv (a.eval x) ax)
    (hm : MemOK B w cv ob) {c : Bool} {r : A} (h : convA cfg.tt s d ax = some (c, r)) (hct : c = true) : QSound P B cv ob o a w r [] := by
  have go : ∀ v w', (convert s d (a.eval x)).run P w = .ok v w' → Grow w w' → Rel w' cv v r → Live ob r → QSound P B cv ob o a w r [] :=
    fun v w' hr hg h1 h2 => QSound.value' v w' (by simp only [execOp, ho, Sem.run_bind, hr, Result.andThen_ok]; rfl) hg h1 h2
  unfold convA at h
  split at h
  · rename_i k n
    have e := hx.int_inv
    split at h
    · rename_i ts td hts htd
      obtain ⟨ds, hds⟩ := (hc.tt s _ hts).und
      split at h
      · rename_i k' hik
        injection h with h; injection h with h1 h2; subst h2
        have hd := (hc.tt d _ htd).ik k' hik
        have hr : (Conv.intToInt k' n).run P w = .ok (.int k' (k'.wrap n)) w := rfl
        exact go _ w (by rw [e, conv_int_int hds hd]; exact hr) (Grow.refl w) (.data (.int _ _)) (live_int _ _)
      · rename_i k' _ hfk
        injection h with h; injection h with h1 h2; subst h2
        have hd := (hc.tt d _ htd).fk k' hfk
        have hr : (Conv.intToFloat k' n).run P w = .ok (.float k' (k'.nearest n)) w := rfl
        exact go _ w (by rw [e, conv_int_flt hds hd]; exact hr) (Grow.refl w) (.data (.flt (fofInt_FR k' n))) (live_flt _ _)
      · cases h
    · cases h
  · rename_i sk n
    obtain ⟨b, e, f⟩ := hx.flt_inv
    split at h
    · rename_i ts td hts htd
      obtain ⟨ds, hds⟩ := (hc.tt s _ hts).und
      split at h
      · rename_i k' hik
        injection h with h; injection h with h1 h2; subst h2
        have hd := (hc.tt d _ htd).ik k' hik
        have hv := ftoInt_FR f (by rw [h1]; exact hct)
        have hr := run_convert_float_int (P := P) w s d sk k' b (ftoInt sk n k') (by rw [hds]; rfl) hd hv
        exact go _ w (by rw [e]; exact hr) (Grow.refl w) (.data (.int _ _)) (live_int _ _)
      · rename_i k' _ hfk
        have hd := (hc.tt d _ htd).fk k' hfk
        split at h
        · rename_i he
          have := of_decide_eq_true he
          subst this
          injection h with h; injection h with h1 h2; subst h2
          have hr := run_convert_float_float (P := P) w s d sk sk b b (by rw [hds]; rfl) hd (by simp [floatToFloatBits])
          exact go _ w (by rw [e]; exact hr) (Grow.refl w) (.data (.flt f)) (live_flt _ _)
        · rename_i he
          have hne : sk ≠ k' := of_decide_eq_false he
          have fin : fcvtOk sk k' n = true → r = .flt k' (fcvt sk k' n) → QSound P B cv ob o a w r [] := by
            intro hok hr0
            subst hr0
            obtain ⟨r, w', hr, hdr, hf⟩ := run_floatToFloat (P := P) (w := w) f hok hne
            exact go _ w' (by rw [e, conv_flt_flt hds hd]; exact hr) (Grow.of_drew hdr) (.data (.flt hf)) (live_flt _ _)
          split at h
          · injection h with h; injection h with h1 h2
            refine fin ?_ h2.symm
            cases k'
            · exact absurd rfl hne
            · exact widen_ok n
          · injection h with h; injection h with h1 h2
            exact fin (by rw [h1]; exact hct) h2.symm
      · cases h
    · cases h
  · rename_i sk n m
    obtain ⟨b1, b2, e, f1, f2⟩ := hx.cpx_inv
    split at h
    · rename_i ts td hts htd
      obtain ⟨ds, hds⟩ := (hc.tt s _ hts).und
      split at h
      · rename_i k' hck
        have hd := (hc.tt d _ htd).ck k' hck
        split at h
        · rename_i he
          have := of_decide_eq_true he
          subst this
          injection h with h; injection h with h1 h2; subst h2
          have hr : (Conv.complexToComplex sk b1 b2 sk).run P w = .ok (.complex sk b1 b2) w := by simp [Conv.complexToComplex, Conv.floatToFloat]
          exact go _ w (by rw [e, conv_cpx hds hd]; exact hr) (Grow.refl w) (.data (.cpx f1 f2)) (live_cpx _ _ _)
        · rename_i he
          have hne : sk ≠ k' := of_decide_eq_false he
          split at h
          · injection h with h; injection h with h1 h2; subst h2
            have hk : k' = .f64 := by cases k' <;> first | rfl | exact absurd rfl hne
            subst hk
            obtain ⟨r1, w1, hr1, hd1, hf1⟩ := run_floatToFloat (P := P) (w := w) f1 (widen_ok n) hne
            obtain ⟨r2, w2, hr2, hd2, hf2⟩ := run_floatToFloat (P := P) (w := w1) f2 (widen_ok m) hne
            have hr : (Conv.complexToComplex .f32 b1 b2 .f64).run P w = .ok (.complex .f64 r1 r2) w2 := by
              simp [Conv.complexToComplex, hr1, hr2]
            exact go _ w2 (by rw [e, conv_cpx hds hd]; exact hr) ((Grow.of_drew hd1).trans (Grow.of_drew hd2)) (.data (.cpx hf1 hf2)) (live_cpx _ _ _)
          · injection h with h; injection h with h1 h2; subst h2
            rw [← h1] at hct
            simp only [Bool.and_eq_true] at hct
            obtain ⟨r1, w1, hr1, hd1, hf1⟩ := run_floatToFloat (P := P) (w := w) f1 hct.1 hne
            obtain ⟨r2, w2, hr2, hd2, hf2⟩ := run_floatToFloat (P := P) (w := w1) f2 hct.2 hne
            have hr : (Conv.complexToComplex .f64 b1 b2 k').run P w = .ok (.complex k' r1 r2) w2 := by
              simp [Conv.complexToComplex, hr1, hr2]
            exact go _ w2 (by rw [e, conv_cpx hds hd]; exact hr) ((Grow.of_drew hd1).trans (Grow.of_drew hd2)) (.data (.cpx hf1 hf2)) (live_cpx _ _ _)
      · cases h
    · cases h
  · cases h
theorem q_extract {x : Operand} {i : Nat} (ho : o.op = .extract x i) {l : List A} {r : A} (hx : Rel w cv (a.eval x) (.tup l)) (hl : Live ob (.tup l)) (hm : MemOK B w cv ob)
    (h : l[i]? = some r) : QSound P B cv ob o a w r [] := by
  obtain ⟨vs, e, hs, hr⟩ := hx.tup_inv
  obtain ⟨hlt, hv⟩ := List.getElem?_eq_some_iff.1 h
  have h1 := hr i hlt
  simp only [List.getD, h, Option.getD_some] at h1
  have hlt' : i < vs.size := by omega
  refine QSound.value (vs.getD i undef) w ?_ (Grow.refl w) h1 (hl.tupL _ (List.mem_of_getElem? h)) hm
  simp [execOp, ho, Instr.extract, e, Array.getElem?_eq_getElem hlt', Array.getD, hlt']
theorem map_eval_rel {get : Nat → A} (hs : Slots w cv ob a get) (xs : Array Operand) :
    (xs.map a.eval).size = (xs.toList.map (opd get)).length ∧ (∀ i, i < (xs.toList.map (opd get)).length → Rel w cv ((xs.map a.eval).getD i undef) ((xs.toList.map (opd get)).getD i .any)) ∧ LiveL ob (xs.toList.map (opd get)) := by
  refine ⟨by simp, fun i hi => ?_, fun x hx => ?_⟩
  · have hi' : i < xs.size := by simpa using hi
    have := (hs.opd xs[i]).1
    simpa [Array.getD, hi', List.getD] using this
  · obtain ⟨y, _, rfl⟩ := List.mem_map.1 hx
    exact (hs.opd y).2
theorem q_makeFunc {f : Nat} {first caps : Array Operand} (ho : o.op = .makeFunc (.func f) first caps) (hfirst : first.toList = []) {get : Nat → A} (hs : Slots w cv ob a get) (hm : MemOK B w cv ob) :
    QSound P B cv ob o a w (.fn f (caps.toList.map (opd get))) [] := by
  have h := map_eval_rel hs caps
  rw [Array.toList_eq_nil_iff] at hfirst
  subst hfirst
  exact QSound.value (.func (.func f) #[] (caps.map a.eval)) w (by simp [execOp, ho, Instr.makeFunc]) (Grow.refl w) (.fn h.1 h.2.1) (LiveL.fn h.2.2) hm
theorem q_nilCheck {x : Operand} (ho : o.op = .nilCheck x) {ax : A} (hx : Rel w cv (a.eval x) ax) (hl : Live ob ax) (hm : MemOK B w cv ob) (hp : ∃ p, a.eval x = .pointer (some p)) :
    QSound P B cv ob o a w ax [] := by
  obtain ⟨p, e⟩ := hp
  exact QSound.value (a.eval x) w (by simp [execOp, ho, e]) (Grow.refl w) hx hl hm
theorem ptr_pointer {v : Value} {ax : A} (hx : Rel w cv v ax) (hl : Live ob ax) (hm : MemOK B w cv ob) (h : (∃ i k, ax = .ptr i k) ∨ (∃ i e j k, ax = .rpt i e j k) ∨ (∃ d k, ax = .rop d k)) :
    ∃ b off, v = .pointer (some ⟨b, off, none⟩) := by
  rcases h with ⟨i, k, rfl⟩ | ⟨i, e, j, k, rfl⟩ | ⟨d, k, rfl⟩
  · obtain ⟨u, hu⟩ := hm.live (hl i (by simp [A.has]))
    obtain ⟨b, _, rfl⟩ := hx.ptr_inv hu
    exact ⟨_, _, rfl⟩
  · obtain ⟨u, hu⟩ := hm.live (hl i (by simp [A.has]))
    obtain ⟨b, l, c, _, _, rfl⟩ := hx.rpt_inv hu
    exact ⟨_, _, rfl⟩
  · cases hx.rop_inv with
    | rop f hS hc h => exact ⟨_, _, rfl⟩
def A.shift (off : Nat) : A → Option A
  | .ptr i k => some (.ptr i (k + off))
  | .rpt i e j k => some (.rpt i e j (k + off))
  | .rop d k => some (.rop d (k + off))
  | _ => none
theorem shift_rel {v : Value} {ax r : A} {off : Nat} (hx : Rel w cv v ax) (hl : Live ob ax) (hm : MemOK B w cv ob) (h : ax.shift off = some r) :
    ∃ b o', v = .pointer (some ⟨b, o', none⟩) ∧ Rel w cv (.pointer (some ⟨b, o' + off, none⟩)) r ∧ Live ob r := by
  cases ax <;> simp only [A.shift, reduceCtorEq, Option.some.injEq] at h
  · rename_i i k
    subst h
    obtain ⟨u, hu⟩ := hm.live (hl i (by simp [A.has]))
    obtain ⟨b, hb, rfl⟩ := hx.ptr_inv hu
    refine ⟨b, k, rfl, .ptr fun u' hu' => ⟨b, ?_, rfl⟩, fun id hid => hl id (by simpa [A.has] using hid)⟩
    rw [hu] at hu'; injection hu' with hu'; rw [← hu', hb]
  · rename_i i e j k
    subst h
    obtain ⟨u, hu⟩ := hm.live (hl i (by simp [A.has]))
    obtain ⟨b, l, c, hb, hil, rfl⟩ := hx.rpt_inv hu
    refine ⟨b, j * e + k, rfl, .rpt fun u' hu' => ⟨b, l, c, ?_, hil, by rw [Nat.add_assoc]⟩, fun id hid => hl id (by simpa [A.has] using hid)⟩
    rw [hu] at hu'; injection hu' with hu'; rw [← hu', hb]
  · rename_i d k
    subst h
    cases hx.rop_inv with
    | @rop b o0 off' d' f hS hc h =>
      refine ⟨b, o0 + k, rfl, ?_, fun id hid => by simp [A.has] at hid⟩
      rw [Nat.add_assoc]
      exact .data (.rop f hS hc h)
omit [XS] in
theorem mapM_at {α β : Type} {g : α → Option β} : ∀ {l : List α} {r : List β} {i : Nat} {y : β}, l.mapM g = some r → r[i]? = some y → ∃ x, l[i]? = some x ∧ g x = some y
  | [], r, i, y, h, hy => by simp at h; subst h; simp at hy
  | x :: l, r, i, y, h, hy => by
    simp only [List.mapM_cons, Option.bind_eq_bind, Option.pure_def] at h
    cases hx : g x with
    | none => simp [hx] at h
    | some z =>
      cases hl : l.mapM g with
      | none => simp [hx, hl] at h
      | some rest =>
        simp [hx, hl] at h
        subst h
        cases i with
        | zero => simp at hy; subst hy; exact ⟨x, rfl, hx⟩
        | succ i =>
          obtain ⟨z', h1, h2⟩ := mapM_at (l := l) (i := i) hl (by simpa using hy)
          exact ⟨z', by simpa using h1, h2⟩
theorem q_fieldAddr {cfg : Cfg} (hc : CfgOK P cfg) {t f : Nat} {x : Operand} {ti : TI} (ht : cfg.tt t = some ti) (ho : o.op = .fieldAddr t x f) {off sz : Nat} (hf : ti.fields[f]? = some (off, sz))
    {ax r : A} (hx : Rel w cv (a.eval x) ax) (hl : Live ob ax) (hm : MemOK B w cv ob) (h : ax.shift off = some r) : QSound P B cv ob o a w r [] := by
  obtain ⟨b, o', e, hr, hlr⟩ := shift_rel hx hl hm h
  obtain ⟨fs, hu, hpl, hpos⟩ := (hc.tt t ti ht).fields (fun e => by rw [e] at hf; simp at hf)
  obtain ⟨fd, hfd, hg⟩ := mapM_at hpl hf
  cases hi : P.info? fd.type with
  | none => simp [hi] at hg
  | some fi =>
    simp only [hi, Option.map_some, Option.some.injEq, Prod.mk.injEq] at hg
    obtain ⟨h1, h2⟩ := hg
    have hsz : fi.size ≠ 0 := by have := hpos _ (List.mem_of_getElem? hf); simp only at this; omega
    have hfd' : fs[f]? = some fd := by simpa using hfd
    have hfp : (fieldPlace ⟨b, o', none⟩ fd).run P w = .ok ⟨b, o' + off, none⟩ w := by
      simp only [fieldPlace, Sem.run_bind, run_sizeOf hi, Result.andThen_ok, if_neg hsz, Sem.run_pure, add_off, h1]
    refine QSound.value (.pointer (some ⟨b, o' + off, none⟩)) w ?_ (Grow.refl w) hr hlr hm
    simp [execOp, ho, Instr.fieldAt, run_underlying hu, hfd', e, Instr.sureAddr, hfp]
omit [XS] in
theorem run_indexAt {t e : Nat} {ei : TypeInfo} (hu : P.underlying t = some (.slice e)) (hi : P.info? e = some ei) {k : IntKind} {i : Int} {base : Addr} {len cap : Nat} (h0 : 0 ≤ i) (h1 : i < len) :
    (Instr.indexAt t (.slice (some base) len cap) (.int k i)).run P w = .ok (.pointer (some (base.add (i.toNat * ei.size)))) w := by
  simp [Instr.indexAt, asIntOf, run_underlying hu, run_sizeOf hi, h0, h1]
omit [XS] in
theorem TIOK.sizeE {t e : Nat} {ei : TI} (h : TIOK P e ei) : ∃ i, P.info? e = some i ∧ i.size = ei.size := by
  obtain ⟨i, d, z, hi, hu, hs, _⟩ := h.info
  exact ⟨i, hi, hs⟩
theorem q_indexAddr {cfg : Cfg} (hc : CfgOK P cfg) {t : Nat} {x i : Operand} (ho : o.op = .indexAddr t x i) {obj : Nat → Option O} (hob : ∀ i o', obj i = some o' → ob i = some o')
    {ax ai : A} (hx : Rel w cv (a.eval x) ax) (hl : Live ob ax) (hi : Rel w cv (a.eval i) ai) (hm : MemOK B w cv ob) {c : Bool} {r : A}
    (h : indexA cfg.tt t obj ax ai = some (c, r)) (hct : c = true) : QSound P B cv ob o a w r [] := by
  unfold indexA at h
  split at h
  · rename_i esz len get k n
    split at h
    · rename_i ti ht
      split at h
      · rename_i e he
        split at h
        · rename_i ei hei
          split at h
          · rename_i hbeq
            have hsz := Nat.eq_of_beq_eq_true hbeq
            injection h with h; injection h with h1 h2; subst h2
            rw [← h1] at hct
            simp only [Bool.and_eq_true, decide_eq_true_eq] at hct
            have hct2 : n < (len : Int) := hct.2
            have hu := (hc.tt t ti ht).elem e he
            obtain ⟨info, hinfo, hisz⟩ := TIOK.sizeE (t := t) (hc.tt e ei hei)
            have hd := hx.ro_inv
            cases hv : a.eval x with
            | slice b l cap =>
              rw [hv] at hd
              cases hd with
              | @ro _ _ _ _ _ b0 o0 hk f ha hz hcell hflat hrel =>
                have hpos : 0 < len := by omega
                have hn : n.toNat < len := by omega
                obtain ⟨rfl, hS⟩ := ha hpos
                have hrun := run_indexAt (P := P) (w := w) hu hinfo (k := k) (i := n) (base := ⟨b0, o0, none⟩) (len := len) (cap := cap) hct.1 hct2
                rw [add_off, hisz, hsz] at hrun
                refine QSound.value (.pointer (some ⟨b0, o0 + n.toNat * esz, none⟩)) w ?_ (Grow.refl w) (.data ?_) (live_none fun _ => rfl) hm
                · simp only [execOp, ho, Sem.run_bind, hv, hi.int_inv, hrun, Result.andThen_ok]; rfl
                · have := RelD.rop (w := w) (S := Sx w cv) (b := b0) (o := o0 + n.toNat * esz) (off := 0) (d := get n.toNat) (fun j => f n.toNat j) hS
                    (fun j hj => by rw [hz _ hn] at hj; have := hcell n.toNat j hn hj; rwa [← Nat.add_assoc] at this)
                    (fun j hj => by rw [hz _ hn] at hj; exact hrel n.toNat j hn hj)
                  simpa using this
            | _ => rw [hv] at hd; cases hd
          · cases h
        · cases h
      · cases h
    · cases h
  · rename_i id len k n
    split at h
    · rename_i ti ht
      split at h
      · rename_i e he
        split at h
        · rename_i ei hei
          split at h
          · rename_i e' esz l' get hid
            split at h
            · rename_i hbeq
              have hsz := Nat.eq_of_beq_eq_true hbeq
              injection h with h; injection h with h1 h2; subst h2
              rw [← h1] at hct
              simp only [Bool.and_eq_true, decide_eq_true_eq] at hct
              have hct2 : n < (len : Int) := hct.2
              have hu := (hc.tt t ti ht).elem e he
              obtain ⟨info, hinfo, hisz⟩ := TIOK.sizeE (t := t) (hc.tt e ei hei)
              have hid' := hob _ _ hid
              obtain ⟨v, E, xs, hcv, hown, _⟩ := (hm.obj id _ hid').1
              obtain ⟨rfl, b, cap, hvu⟩ := hx.sl_inv hcv
              have hpos : 0 < len := by omega
              obtain ⟨_, hown⟩ := hown
              rcases hown with ⟨hnil, hl0⟩ | ⟨g, cap', cur, hv, _⟩
              · rw [hvu] at hnil
                injection hnil with _ h2 _
                omega
              · rw [hvu] at hv
                injection hv with hv1 hv2 hv3
                subst hv1 hv2 hv3
                have hrun := run_indexAt (P := P) (w := w) hu hinfo (k := k) (i := n) (base := ⟨g, 0, none⟩) (len := len) (cap := cap) hct.1 hct2
                rw [add_off, hisz, hsz, Nat.zero_add] at hrun
                refine QSound.value (.pointer (some ⟨g, n.toNat * esz, none⟩)) w ?_ (Grow.refl w) (.rpt fun u hu' => ?_) (fun id' hid'' => ?_) hm
                · simp only [execOp, ho, Sem.run_bind, hvu, hi.int_inv, hrun, Result.andThen_ok]; rfl
                · rw [hcv] at hu'
                  injection hu' with hu'
                  exact ⟨g, len, cap, by rw [← hu', hvu], by omega, by simp⟩
                · simp only [A.has] at hid''
                  have := Nat.eq_of_beq_eq_true hid''
                  subst this
                  exact ⟨_, hid'⟩
            · cases h
          · rename_i esz l' cs hid
            split at h
            · rename_i hbeq
              have hsz := Nat.eq_of_beq_eq_true hbeq
              injection h with h; injection h with h1 h2; subst h2
              rw [← h1] at hct
              simp only [Bool.and_eq_true, decide_eq_true_eq] at hct
              have hct2 : n < (len : Int) := hct.2
              have hu := (hc.tt t ti ht).elem e he
              obtain ⟨info, hinfo, hisz⟩ := TIOK.sizeE (t := t) (hc.tt e ei hei)
              have hid' := hob _ _ hid
              obtain ⟨v, E, xs, hcv, hown, _⟩ := (hm.obj id _ hid').1
              obtain ⟨rfl, b, cap, hvu⟩ := hx.sl_inv hcv
              have hpos : 0 < len := by omega
              obtain ⟨_, hown⟩ := hown
              rcases hown with ⟨hnil, hl0⟩ | ⟨g, cap', cur, hv, _⟩
              · rw [hvu] at hnil
                injection hnil with _ h2 _
                omega
              · rw [hvu] at hv
                injection hv with hv1 hv2 hv3
                subst hv1 hv2 hv3
                have hrun := run_indexAt (P := P) (w := w) hu hinfo (k := k) (i := n) (base := ⟨g, 0, none⟩) (len := len) (cap := cap) hct.1 hct2
                rw [add_off, hisz, hsz, Nat.zero_add] at hrun
                refine QSound.value (.pointer (some ⟨g, n.toNat * esz, none⟩)) w ?_ (Grow.refl w) (.rpt fun u hu' => ?_) (fun id' hid'' => ?_) hm
                · simp only [execOp, ho, Sem.run_bind, hvu, hi.int_inv, hrun, Result.andThen_ok]; rfl
                · rw [hcv] at hu'
                  injection hu' with hu'
                  exact ⟨g, len, cap, by rw [← hu', hvu], by omega, by simp⟩
                · simp only [A.has] at hid''
                  have := Nat.eq_of_beq_eq_true hid''
                  subst this
                  exact ⟨_, hid'⟩
            · cases h
          · cases h
        · cases h
      · cases h
    · cases h
  · cases h
end
end Go.Fw

/-
  The operations, continued: parts of slices, new rows, built-in functions.
-/
namespace Go.Fw
variable [XS]
open Go.RowKit (Below)
omit [XS] in
theorem datas_mem {l : List A} (h : A.datas l = true) : ∀ x, x ∈ l → x.data = true := by
  induction l with
  | nil => intro x hx; cases hx
  | cons y r ih =>
    intro x hx
    simp only [A.datas] at h
    split at h
    · rename_i hy
      rcases List.mem_cons.1 hx with rfl | hx
      · exact hy
      · exact ih h x hx
    · cases h
omit [XS] in
theorem datas_getD {l : List A} (h : A.datas l = true) {i : Nat} (hi : i < l.length) : (l.getD i .any).data = true := by
  rw [List.getD, List.getElem?_eq_getElem hi]
  exact datas_mem h _ (List.getElem_mem hi)
theorem Rel.toData {w : World} {cv : Nat → Option Value} {v : Value} {x : A} (h : Rel w cv v x) (hd : x.data = true) : RelD w (Sx w cv) v x := by
  induction h with
  | any => simp [A.data] at hd
  | data h => exact h
  | agg hs h ih => simp only [A.data] at hd; exact .agg hs fun i hi => ih i hi (datas_getD hd hi)
  | tup hs h ih => simp only [A.data] at hd; exact .tup hs fun i hi => ih i hi (datas_getD hd hi)
  | fn hs h ih => simp only [A.data] at hd; exact .fn hs fun i hi => ih i hi (datas_getD hd hi)
  | ptr => simp [A.data] at hd
  | rpt => simp [A.data] at hd
  | sl => simp [A.data] at hd
omit [XS] in
theorem allFlat_mem {l : List A} (h : allFlat l = true) : ∀ x, x ∈ l → x.flat = true := by
  induction l with
  | nil => intro x hx; cases hx
  | cons y r ih =>
    intro x hx
    simp only [allFlat] at h
    split at h
    · rename_i hy
      rcases List.mem_cons.1 hx with rfl | hx
      · exact hy
      · exact ih h x hx
    · cases h
omit [XS] in
theorem mul_lt {i n e j : Nat} (hi : i < n) (hj : j < e) : i * e + j < n * e := by
  have : (i + 1) * e ≤ n * e := Nat.mul_le_mul_right _ hi
  rw [Nat.add_mul, Nat.one_mul] at this
  omega
section
variable {P : Program} {B : Nat} {cv : Nat → Option Value} {ob : Nat → Option O} {o : Oper} {a : Act} {w : World}
omit [XS] in
theorem elem_of {t e : Nat} (h : P.underlying t = some (.slice e)) : P.underlying t = some (.slice (P.elem t)) ∧ P.elem t = e := by
  have : P.elem t = e := by unfold Program.elem; rw [h]
  exact ⟨by rw [this]; exact h, this⟩
theorem ro_part {v : Option Addr} {len cap esz : Nat} {get : Row A} (h : RelD w (Sx w cv) (.slice v len cap) (.ro esz len get)) (l n m : Nat) (hn : l + n ≤ len) (hnm : n ≤ m) (v' : Option Addr)
    (hv : v' = v ∧ (l = 0 ∨ n = 0) ∨ v' = v.map (·.add (l * esz))) (g : Row A) (hg : ∀ i, g i = get (l + i)) : RelD w (Sx w cv) (.slice v' n m) (.ro esz n g) := by
  cases h with
  | @ro _ _ _ _ _ b o hk f ha hz hc hf hr =>
    refine .ro (b := b) (o := o + l * esz) hnm (fun i j => f (l + i) j) (fun h0 => ?_) (fun i hi => by rw [hg]; exact hz _ (by omega)) (fun i j hi hj => ?_) (fun i j hi hj => by rw [hg]; exact hf _ _ (by omega) hj) (fun i j hi hj => by rw [hg]; exact hr _ _ (by omega) hj)
    · obtain ⟨rfl, hS⟩ := ha (by omega)
      refine ⟨?_, hS⟩
      rcases hv with ⟨rfl, h | h⟩ | rfl
      · subst h; simp
      · omega
      · simp [add_off]
    · have := hc (l + i) j (by omega) hj
      rw [Nat.add_mul] at this
      rwa [show o + l * esz + (i * esz + j) = o + (l * esz + i * esz + j) by omega]
theorem ro_sliced {v : Option Addr} {len cap esz : Nat} {get : Row A} (h : RelD w (Sx w cv) (.slice v len cap) (.ro esz len get)) (l n m : Nat) (hln : l ≤ n) (hn : n ≤ len) (hnm : n ≤ m) (g : Row A) (hg : ∀ i, g i = get (l + i)) :
    RelD w (Sx w cv) (sliced v l n m esz) (.ro esz (n - l) g) := by
  unfold sliced
  refine ro_part h l (n - l) (m - l) (by omega) (by omega) _ ?_ g hg
  by_cases hml : m = l
  · exact .inl ⟨by simp [hml], .inr (by omega)⟩
  · exact .inr (by simp [hml])
theorem q_slice {cfg : Cfg} (hc : CfgOK P cfg) {t e : Nat} {ti ei : TI} (ht : cfg.tt t = some ti) (he : ti.elem = some e) (hei : cfg.tt e = some ei) {x : Operand} {lo hi mx : Option Operand}
    (ho : o.op = .slice t x lo hi mx) {get : Nat → A} (hs : Slots w cv ob a get) (hm : MemOK B w cv ob) {c : Bool} {r : A}
    (h : sliceA ei.size (lo.map (opd get)) (hi.map (opd get)) (mx.map (opd get)) (opd get x) = some (c, r)) (hct : c = true) : QSound P B cv ob o a w r [] := by
  have hu := (hc.tt t ti ht).elem e he
  obtain ⟨hu', hel⟩ := elem_of hu
  obtain ⟨info, hinfo, hisz⟩ := TIOK.sizeE (t := t) (hc.tt e ei hei)
  have hsz : (sizeOf (P.elem t)).run P w = .ok ei.size w := by rw [hel, run_sizeOf hinfo, hisz]
  have hx := hs.opd x
  have fin : ∀ v, (Instr.slice t (a.eval x) (lo.map a.eval) (hi.map a.eval) (mx.map a.eval)).run P w = .ok v w → Rel w cv v r → Live ob r → QSound P B cv ob o a w r [] := by
    intro v hr h1 h2
    refine QSound.value v w ?_ (Grow.refl w) h1 h2 hm
    simp only [execOp, ho, Sem.run_bind, run_sliceAt_slice w t _ _ _ _ hu', hr, Result.andThen_ok]
    rfl
  unfold sliceA at h
  split at h
  · rename_i esz len get0 hx0
    rw [hx0] at hx
    have hd := hx.1.ro_inv
    obtain ⟨v, cap, ev⟩ := hd.ro_slice
    rw [ev] at hd fin
    have hk : len ≤ cap := by cases hd; assumption
    split at h
    · cases h
    · rename_i hbeq
      have hesz := Nat.eq_of_beq_eq_true hbeq
      have arg : ∀ (y : Option Operand) (k : IntKind) (n : Int), y.map (opd get) = some (.int k n) → y.map a.eval = some (.int k n) := by
        intro y k n hy
        cases y with
        | none => simp at hy
        | some y =>
          simp only [Option.map_some, Option.some.injEq] at hy ⊢
          have := (hs.opd y).1
          rw [hy] at this
          exact this.int_inv
      have argn : ∀ (y : Option Operand), y.map (opd get) = none → y.map a.eval = none := by
        intro y hy
        cases y with
        | none => rfl
        | some y => simp at hy
      split at h
      · rename_i k1 l k2 n h1 h2 h3
        injection h with h; injection h with e1 e2; subst e2
        rw [← e1] at hct
        simp only [Bool.and_eq_true, decide_eq_true_eq] at hct
        obtain ⟨⟨c1, c2⟩, c3⟩ := hct
        have c3 : n ≤ (len : Int) := c3
        rw [arg _ _ _ h1, arg _ _ _ h2, argn _ h3] at fin
        have hr := run_slice_lh (P := P) w t v len cap hu' k1 k2 l n c1 c2 (by omega)
        rw [hsz, Result.andThen_ok] at hr
        refine fin _ hr (.data ?_) (live_none fun _ => rfl)
        subst hesz
        have := ro_sliced hd l.toNat n.toNat cap (by omega) (by omega) (by omega) _ (Row.shift_at l.toNat get0)
        rwa [show n.toNat - l.toNat = (n - l).toNat by omega] at this
      · rename_i k2 n h1 h2 h3
        injection h with h; injection h with e1 e2; subst e2
        rw [← e1] at hct
        simp only [Bool.and_eq_true, decide_eq_true_eq] at hct
        obtain ⟨c2, c3⟩ := hct
        have c3 : n ≤ (len : Int) := c3
        rw [argn _ h1, arg _ _ _ h2, argn _ h3] at fin
        have hr := run_slice_h (P := P) w t v len cap hu' k2 n c2 (by omega)
        rw [hsz, Result.andThen_ok] at hr
        refine fin _ hr (.data ?_) (live_none fun _ => rfl)
        subst hesz
        have := ro_sliced hd 0 n.toNat cap (by omega) (by omega) (by omega) get0 (fun i => by rw [Nat.zero_add])
        simpa only [Nat.sub_zero] using this
      · rename_i k1 l h1 h2 h3
        injection h with h; injection h with e1 e2; subst e2
        rw [← e1] at hct
        simp only [Bool.and_eq_true, decide_eq_true_eq] at hct
        obtain ⟨c1, c3⟩ := hct
        have c3 : l ≤ (len : Int) := c3
        rw [arg _ _ _ h1, argn _ h2, argn _ h3] at fin
        have hr := run_slice_l (P := P) w t v len cap hu' k1 l c1 c3
        rw [hsz, Result.andThen_ok] at hr
        refine fin _ hr (.data ?_) (live_none fun _ => rfl)
        subst hesz
        exact ro_sliced hd l.toNat len cap (by omega) (Nat.le_refl _) hk _ (Row.shift_at l.toNat get0)
      · rename_i k2 k3 h1 h2 h3
        injection h with h; injection h with e1 e2; subst e2
        rw [argn _ h1, arg _ _ _ h2, arg _ _ _ h3] at fin
        have hr := run_slice_hm (P := P) w t v len cap hu' k2 k3 0 0 (by omega) (by omega) (by omega)
        rw [hsz, Result.andThen_ok] at hr
        exact fin _ hr (.data (by simpa [sliced] using RelD.emp v)) (live_none fun _ => rfl)
      · cases h
  · rename_i hx0
    rw [hx0] at hx
    obtain ⟨v, ev⟩ := hx.1.emp_inv
    rw [ev] at fin
    split at h
    · rename_i k2 h1 h2 h3
      injection h with h; injection h with e1 e2; subst e2
      have a1 : lo.map a.eval = none := by
        cases lo with
        | none => rfl
        | some y => simp at h1
      have a2 : hi.map a.eval = some (.int k2 0) := by
        cases hi with
        | none => simp at h2
        | some y =>
          simp only [Option.map_some, Option.some.injEq] at h2 ⊢
          have := (hs.opd y).1
          rw [h2] at this
          exact this.int_inv
      have a3 : mx.map a.eval = none := by
        cases mx with
        | none => rfl
        | some y => simp at h3
      rw [a1, a2, a3] at fin
      have hr := run_slice_h (P := P) w t v 0 0 hu' k2 0 (by omega) (by omega)
      rw [hsz, Result.andThen_ok] at hr
      exact fin _ hr (.data (by simpa [sliced] using RelD.emp v)) (live_none fun _ => rfl)
    · cases h
  · cases h
theorem q_row {t e base : Nat} {E esz len cap : Nat} {get : Row A} (cells : Array Value) (hr : (execOp a.eval o).run P w = .ok (.value (.slice (some ⟨w.heap.size, 0, none⟩) len cap)) (w.alloc (.cells cells E)))
    (hf : cv base = none) (hBw : B ≤ w.heap.size) (hp : 0 < esz) (hsz : cells.size = cap * esz) (hlc : len ≤ cap) (hcm : cap ≤ maxLen) (hz : ∀ i, i < len → (get i).cells.length = esz)
    (hE : e ≠ 0 → E = e)
    (hc : ∀ i j, i < len → j < esz → ((get i).cells.getD j .any).flat = true ∧ RelD w (Sx w cv) (cells.getD (i * esz + j) undef) ((get i).cells.getD j .any)) :
    QSound P B cv ob o a w (.sl base len) [(base, .row e esz len get)] := by
  have hst : CvStep B w (w.alloc (.cells cells E)) cv (upd cv base (.slice (some ⟨w.heap.size, 0, none⟩) len cap)) := cvStep_alloc _ _ (.inr rfl) hf
  refine QSound.alloc _ (.slice (some ⟨w.heap.size, 0, none⟩) len cap) _ hr (.inr rfl) hf ?_ (fun i hi => by simp [O.has] at hi) (.sl fun u hu => ?_) (fun id hid => ?_)
  · refine ⟨_, E, cells.toList.take (len * esz), upd_same _ _ _, ⟨?_, .inr ⟨w.heap.size, cap, cells, rfl, hBw, heap_alloc_new w _, hlc, hcm, hsz, rfl⟩⟩, hE, hp, hz, fun i j hi hj => ⟨(hc i j hi hj).1, ?_⟩⟩
    · have : len * esz ≤ cap * esz := Nat.mul_le_mul_right _ hlc
      simp; omega
    · rw [getD_take _ _ _ _ (mul_lt hi hj), toList_getD]
      exact (hc i j hi hj).2.mono hst.sx
  · rw [upd_same] at hu
    injection hu with hu
    exact ⟨hu, _, _, hu.symm⟩
  · simp only [A.has] at hid
    exact .inr (Nat.eq_of_beq_eq_true hid).symm
omit [XS] in
theorem sameOpd_eval {x y : Operand} (h : sameOpd x y = true) : a.eval x = a.eval y := by
  unfold sameOpd at h
  split at h
  · rw [Nat.eq_of_beq_eq_true h]
  · rw [of_decide_eq_true h]
  · cases h
omit [XS] in
theorem getD_madeCells (z : Array Value) (n i : Nat) (h : i < n) (hz : 0 < z.size) : (madeCells z n).getD i undef = z.getD (i % z.size) undef := by
  have : i % z.size < z.size := Nat.mod_lt _ hz
  simp [madeCells, Array.getD, h, this]
theorem q_makeSlice {cfg : Cfg} (hc : CfgOK P cfg) {t e : Nat} {ti ei : TI} (ht : cfg.tt t = some ti) (he : ti.elem = some e) (hei : cfg.tt e = some ei) {l l' : Operand} (ho : o.op = .makeSlice t l l')
    (hll : sameOpd l l' = true) {n : Int} (hl : a.eval l = .int .i64 n) (hn : 0 ≤ n) (hn2 : n ≤ 1073741824) (hby : Nat.ble ei.bytes 1000 = true) {base : Nat} (hf : cv base = none) (hBw : B ≤ w.heap.size) :
    QSound P B cv ob o a w (.sl base n.toNat) [(base, .row e ei.size n.toNat (.rep (match ei.agg with | true => .agg ei.zero | false => ei.zero.getD 0 .any)))] := by
  have hu := (hc.tt t ti ht).elem e he
  obtain ⟨i, d, z, hi, hud, hs, hb, hz, hzz, hag, hzl, hza, hz1⟩ := (hc.tt e ei hei).info
  have hb' : i.bytes ≤ 1000 := by rw [hb]; exact Nat.le_of_ble_eq_true hby
  have hpos := (hc.tt e ei hei).pos
  have hbc : (i.bytes : Int) * n ≤ 281474976710656 := by
    have : (i.bytes : Int) * n ≤ 1000 * 1073741824 := Int.mul_le_mul (by omega) hn2 hn (by omega)
    omega
  have hrun := run_make (P := P) w t e i z hu hi hz .i64 .i64 n n hn (Int.le_refl _) hbc (by omega)
  have hzr := zerosOk_rel w (Sx w cv) hzz
  have hzs : z.cells.size = ei.size := by have := hzr.1; simp at this; omega
  rw [hs] at hrun
  refine q_row (t := t) (E := e) (cap := n.toNat) (madeCells z.cells (n.toNat * ei.size)) ?_ hf hBw hpos (size_madeCells _ _) (Nat.le_refl _) (by unfold maxLen; omega) ?_ (fun _ => rfl) ?_
  · have hl2 : a.eval l' = .int .i64 n := by rw [← sameOpd_eval hll]; exact hl
    simp only [execOp, ho, Sem.run_bind, hl, hl2, hrun, Result.andThen_ok]
    rfl
  · intro k _
    rw [Row.rep_at]
    cases hagg : ei.agg
    · show (ei.zero.getD 0 .any).cells.length = ei.size
      have h1 := hz1 hagg
      have := (hzr.2 0 (by omega)).2.2.1
      rw [flat_cells this]
      simp [h1]
    · show (A.agg ei.zero).cells.length = ei.size
      simpa [A.cells] using hzl
  · intro k j hk hj
    have hcell : (match ei.agg with | true => A.agg ei.zero | false => ei.zero.getD 0 .any).cells.getD j .any = ei.zero.getD j .any := by
      cases hagg : ei.agg
      · have h1 := hz1 hagg
        have h0 : j = 0 := by omega
        subst h0
        simp only
        have := (hzr.2 0 (by omega)).2.2.1
        rw [flat_cells this]
        rfl
      · rfl
    rw [Row.rep_at]
    show A.flat ((match ei.agg with | true => A.agg ei.zero | false => ei.zero.getD 0 .any).cells.getD j .any) = true ∧ RelD w _ _ ((match ei.agg with | true => A.agg ei.zero | false => ei.zero.getD 0 .any).cells.getD j .any)
    rw [hcell, getD_madeCells _ _ _ (mul_lt hk hj) (by omega)]
    have hmod : (k * ei.size + j) % z.cells.size = j := by
      rw [hzs, Nat.add_comm, Nat.add_mul_mod_self_right]
      exact Nat.mod_eq_of_lt hj
    rw [hmod]
    have h2 := hzr.2 j (by omega)
    rw [toList_getD] at h2
    exact ⟨h2.2.2.1, h2.1⟩
end
end Go.Fw

/-
  The operations, concluded: slice literals, built-in functions, calls by contract.
-/
namespace Go.Fw
variable [XS]
open Go.RowKit (Below)
section
variable {P : Program} {B : Nat} {cv : Nat → Option Value} {ob : Nat → Option O} {o : Oper} {a : Act} {w : World}
omit [XS] in
theorem getD_toArray (l : List Value) (j : Nat) : l.toArray.getD j undef = l.getD j undef := by rw [← toList_getD]
omit [XS] in
theorem data_known {x : A} (h : x.data = true) : x ≠ .any := by rintro rfl; simp [A.data] at h
omit [XS] in
theorem data_cells {x : A} (h : x.data = true) {j : Nat} (hj : j < x.cells.length) : (x.cells.getD j .any).data = true := by
  cases x with
  | agg cs => simp only [A.data] at h; exact datas_getD h hj
  | _ =>
    have : j = 0 := by simp [A.cells] at hj; exact hj
    subst this
    exact h
theorem fillRow {size : Nat} (hm : MemOK B w cv ob) {get : Nat → A} (hs : Slots w cv ob a get) : ∀ (parts : List (Nat × Operand)) (j : Nat) (cells : Array Value) (l : List A),
    (j + parts.length) * size ≤ cells.size → litRow size (parts.map fun p => (p.1, opd get p.2)) j = some l →
    ∃ res, Instr.fill (fun i => some (i * size, size)) cells (parts.map fun p => (p.1, a.eval p.2)) = some res ∧ res.size = cells.size ∧ l.length = parts.length ∧
      (∀ k, k < j * size → res.getD k undef = cells.getD k undef) ∧
      (∀ i, i < l.length → (l.getD i .any).cells.length = size) ∧
      (∀ i jj, i < l.length → jj < size → ((l.getD i .any).cells.getD jj .any).flat = true ∧ RelD w (Sx w cv) (res.getD ((j + i) * size + jj) undef) ((l.getD i .any).cells.getD jj .any))
  | [], j, cells, l, _, h => by
    simp only [List.map_nil, litRow, Option.some.injEq] at h
    subst h
    exact ⟨cells, rfl, rfl, rfl, fun _ _ => rfl, fun i hi => by simp at hi, fun i jj hi => by simp at hi⟩
  | (i0, x) :: rest, j, cells, l, hc, h => by
    simp only [List.map_cons, litRow] at h
    split at h
    · rename_i hb1 hb2 hb3
      split at h
      · cases h
      · rename_i hfl
        split at h
        · rename_i l' hl'
          injection h with h
          subst h
          have e0 := Nat.eq_of_beq_eq_true hb1
          have e1 := Nat.eq_of_beq_eq_true hb2
          subst e0
          have hx := hs.opd x
          have hcr := cells_LRel hx.1 (data_known hb3) fun id hid => hm.live (hx.2 id hid)
          have hsz : (a.eval x).cells.size = size := by have := hcr.len; simp at this; omega
          simp only [List.length_cons] at hc
          have hc1 : i0 * size + size ≤ cells.size := by
            have : (i0 + 1) * size ≤ (i0 + (rest.length + 1)) * size := Nat.mul_le_mul_right _ (by omega)
            rw [Nat.add_mul, Nat.one_mul] at this
            omega
          have step := run_fill1 (fun i => some (i * size, size)) cells i0 (i0 * size) size (a.eval x) (rest.map fun p => (p.1, a.eval p.2)) rfl hsz hc1
          have hlen : (cells.toList.take (i0 * size) ++ (a.eval x).cells.toList ++ cells.toList.drop (i0 * size + size)).length = cells.size := by simp [hsz]; omega
          obtain ⟨res, h1, h2, h3, h4, h5, h6⟩ := fillRow hm hs rest (i0 + 1) (cells.toList.take (i0 * size) ++ (a.eval x).cells.toList ++ cells.toList.drop (i0 * size + size)).toArray l'
            (by rw [List.size_toArray, hlen]; have : i0 + 1 + rest.length = i0 + (rest.length + 1) := by omega
                rw [this]; exact hc) hl'
          have seg : ∀ jj, jj < size → res.getD (i0 * size + jj) undef = (a.eval x).cells.getD jj undef := by
            intro jj hjj
            rw [h4 _ (by rw [Nat.add_mul, Nat.one_mul]; omega), getD_toArray, List.append_assoc, getD_append_right _ _ _ _ (by simp; omega)]
            rw [show i0 * size + jj - (cells.toList.take (i0 * size)).length = jj by simp; omega]
            rw [getD_append_left _ _ _ _ (by simp; omega), toList_getD]
          refine ⟨res, by rw [List.map_cons, step]; exact h1, by rw [h2, List.size_toArray, hlen], by simp [h3], fun k hk => ?_, fun i hi => ?_, fun i jj hi hjj => ?_⟩
          · rw [h4 k (by rw [Nat.add_mul, Nat.one_mul]; omega), getD_toArray, List.append_assoc, getD_append_left _ _ _ _ (by simp; omega), getD_take _ _ _ _ hk, toList_getD]
          · cases i with
            | zero => exact e1
            | succ i => exact h5 i (by simpa using hi)
          · cases i with
            | zero =>
              simp only [Nat.add_zero, List.getD_cons_zero]
              refine ⟨allFlat_mem hfl _ (by rw [List.getD, List.getElem?_eq_getElem (by omega)]; exact List.getElem_mem (by omega)), ?_⟩
              rw [seg jj hjj]
              have := hcr.at_ jj (by omega)
              rw [toList_getD] at this
              exact Rel.toData this (data_cells hb3 (by omega))
            | succ i =>
              have := h6 i jj (by simpa using hi) hjj
              rw [show i0 + 1 + i = i0 + (i + 1) by omega] at this
              exact this
        · cases h
    · cases h
theorem q_buildSlice {cfg : Cfg} (hc : CfgOK P cfg) {t e len base : Nat} {ti ei : TI} (ht : cfg.tt t = some ti) (he : ti.elem = some e) (hei : cfg.tt e = some ei) {parts : Array (Nat × Operand)}
    (ho : o.op = .buildSlice t len parts) {get : Nat → A} (hs : Slots w cv ob a get) (hm : MemOK B w cv ob) {l : List A} (hl : litRow ei.size (parts.toList.map fun p => (p.1, opd get p.2)) 0 = some l)
    (hlen : Nat.beq l.length len = true) (hmax : Nat.ble (len * ei.size) 1000 = true) (hf : cv base = none) (hBw : B ≤ w.heap.size) :
    QSound P B cv ob o a w (.sl base len) [(base, .row e ei.size len (.lit l))] := by
  have hu := (hc.tt t ti ht).elem e he
  obtain ⟨i, d, z, hi, hud, hsz, hb, hz, hzz, hag, hzl, hza, hz1⟩ := (hc.tt e ei hei).info
  have hpos := (hc.tt e ei hei).pos
  have elen := Nat.eq_of_beq_eq_true hlen
  have emax := Nat.le_of_ble_eq_true hmax
  have key : ∀ (zc : Array Value), ∃ res : Array Value, Instr.fill (fun i => some (i * ei.size, ei.size)) ((Array.range (len * ei.size)).map (zc[· % zc.size]!)) (parts.toList.map fun p => (p.1, a.eval p.2)) = some res ∧
      res.size = len * ei.size ∧ (∀ i, i < l.length → (l.getD i .any).cells.length = ei.size) ∧
      (∀ i jj, i < l.length → jj < ei.size → ((l.getD i .any).cells.getD jj .any).flat = true ∧ RelD w (Sx w cv) (res.getD (i * ei.size + jj) undef) ((l.getD i .any).cells.getD jj .any)) := by
    intro zc
    have hplen : parts.toList.length = len := by
      have : ∀ (ps : List (Nat × A)) (j : Nat) (r : List A), litRow ei.size ps j = some r → r.length = ps.length := by
        intro ps
        induction ps with
        | nil => intro j r h; simp only [litRow, Option.some.injEq] at h; subst h; rfl
        | cons p ps ih =>
          intro j r h
          simp only [litRow] at h
          split at h
          · split at h
            · cases h
            · split at h
              · rename_i r' hr'
                injection h with h
                subst h
                simp [ih _ _ hr']
              · cases h
          · cases h
      have := this _ _ _ hl
      simp at this
      simp; omega
    obtain ⟨res, h1, h2, _, _, h5, h6⟩ := fillRow hm hs parts.toList 0 ((Array.range (len * ei.size)).map (zc[· % zc.size]!)) l (by simp at hplen ⊢; rw [hplen]; omega) hl
    exact ⟨res, h1, by simpa using h2, h5, fun i jj hi hjj => by simpa using h6 i jj hi hjj⟩
  have hrun : ∃ res : Array Value, (Instr.buildSlice t len (parts.map fun p => (p.1, a.eval p.2))).run P w = .ok (.slice (some ⟨w.heap.size, 0, none⟩) len len) (w.alloc (.cells res e)) ∧
      res.size = len * ei.size ∧ (∀ i, i < l.length → (l.getD i .any).cells.length = ei.size) ∧
      (∀ i jj, i < l.length → jj < ei.size → ((l.getD i .any).cells.getD jj .any).flat = true ∧ RelD w (Sx w cv) (res.getD (i * ei.size + jj) undef) ((l.getD i .any).cells.getD jj .any)) := by
    by_cases h0 : len * ei.size = 0
    · obtain ⟨res, h1, h2, h3⟩ := key #[]
      refine ⟨res, ?_, h2, h3⟩
      unfold Instr.buildSlice
      have h1' : Instr.fill (fun i => some (i * ei.size, ei.size)) ((Array.range (len * ei.size)).map ((#[] : Array Value)[· % (#[] : Array Value).size]!)) (parts.map fun p => (p.1, a.eval p.2)).toList = some res := by simpa using h1
      simp only [Sem.run_bind, run_underlying hu, Result.andThen_ok, run_sizeOf hi, hsz]
      rw [if_neg (by omega)]
      simp only [h0, if_true, Sem.run_bind, Sem.run_pure, Result.andThen_ok] at h1' ⊢
      rw [h1']
      simp [newRow]
    · obtain ⟨res, h1, h2, h3⟩ := key z.cells
      refine ⟨res, ?_, h2, h3⟩
      unfold Instr.buildSlice
      have h1' : Instr.fill (fun i => some (i * ei.size, ei.size)) ((Array.range (len * ei.size)).map (z.cells[· % z.cells.size]!)) (parts.map fun p => (p.1, a.eval p.2)).toList = some res := by simpa using h1
      simp only [Sem.run_bind, run_underlying hu, Result.andThen_ok, run_sizeOf hi, hsz]
      rw [if_neg (by omega), if_neg h0]
      simp only [Sem.run_bind, run_zeroValue hi hz, Sem.run_pure, Result.andThen_ok]
      rw [h1']
      simp [newRow]
  obtain ⟨res, hr, h2, h3, h4⟩ := hrun
  refine q_row (t := t) (E := e) (cap := len) res ?_ hf hBw hpos h2 (Nat.le_refl _) ?_ (fun i hi => by rw [Row.lit_at (by omega)]; exact h3 i (by omega)) (fun _ => rfl) (fun i j hi hj => by rw [Row.lit_at (by omega)]; exact h4 i j (by omega) hj)
  · simp only [execOp, ho, Sem.run_bind, hr, Result.andThen_ok]
    rfl
  · have : len ≤ len * ei.size := Nat.le_mul_of_pos_right _ hpos
    unfold maxLen; omega
theorem fillArr {size : Nat} (hm : MemOK B w cv ob) {get : Nat → A} (hs : Slots w cv ob a get) : ∀ (parts : List (Nat × Operand)) (j : Nat) (cells : Array Value) (l : List A),
    (j + parts.length) * size ≤ cells.size → litArr size (parts.map fun p => (p.1, opd get p.2)) j = some l →
    ∃ res, Instr.fill (fun i => some (i * size, size)) cells (parts.map fun p => (p.1, a.eval p.2)) = some res ∧ res.size = cells.size ∧ l.length = parts.length * size ∧
      (∀ k, k < j * size → res.getD k undef = cells.getD k undef) ∧
      (∀ k, k < l.length → Rel w cv (res.getD (j * size + k) undef) (l.getD k .any)) ∧ LiveL ob l
  | [], j, cells, l, _, h => by
    simp only [List.map_nil, litArr, Option.some.injEq] at h
    subst h
    exact ⟨cells, rfl, rfl, by simp, fun _ _ => rfl, fun i hi => by simp at hi, fun x hx => by cases hx⟩
  | (i0, x) :: rest, j, cells, l, hc, h => by
    simp only [List.map_cons, litArr] at h
    split at h
    · rename_i hb1 hb2 hfl
      split at h
      · rename_i l' hl'
        injection h with h
        subst h
        have e0 := Nat.eq_of_beq_eq_true hb1
        have e1 := Nat.eq_of_beq_eq_true hb2
        subst e0
        have hx := hs.opd x
        have hne : opd get x ≠ .any := fun e => by rw [e] at hfl; simp [A.cells, allFlat, A.flat] at hfl
        have hcr := cells_LRel hx.1 hne fun id hid => hm.live (hx.2 id hid)
        have hsz : (a.eval x).cells.size = size := by have := hcr.len; simp at this; omega
        simp only [List.length_cons] at hc
        have hc1 : i0 * size + size ≤ cells.size := by
          have : (i0 + 1) * size ≤ (i0 + (rest.length + 1)) * size := Nat.mul_le_mul_right _ (by omega)
          rw [Nat.add_mul, Nat.one_mul] at this
          omega
        have step := run_fill1 (fun i => some (i * size, size)) cells i0 (i0 * size) size (a.eval x) (rest.map fun p => (p.1, a.eval p.2)) rfl hsz hc1
        have hlen : (cells.toList.take (i0 * size) ++ (a.eval x).cells.toList ++ cells.toList.drop (i0 * size + size)).length = cells.size := by simp [hsz]; omega
        obtain ⟨res, h1, h2, h3, h4, h5, h6⟩ := fillArr hm hs rest (i0 + 1) (cells.toList.take (i0 * size) ++ (a.eval x).cells.toList ++ cells.toList.drop (i0 * size + size)).toArray l'
          (by rw [List.size_toArray, hlen]; have : i0 + 1 + rest.length = i0 + (rest.length + 1) := by omega
              rw [this]; exact hc) hl'
        have seg : ∀ jj, jj < size → res.getD (i0 * size + jj) undef = (a.eval x).cells.getD jj undef := by
          intro jj hjj
          rw [h4 _ (by rw [Nat.add_mul, Nat.one_mul]; omega), getD_toArray, List.append_assoc, getD_append_right _ _ _ _ (by simp; omega)]
          rw [show i0 * size + jj - (cells.toList.take (i0 * size)).length = jj by simp; omega]
          rw [getD_append_left _ _ _ _ (by simp; omega), toList_getD]
        refine ⟨res, by rw [List.map_cons, step]; exact h1, by rw [h2, List.size_toArray, hlen], by rw [List.length_append, h3, e1, List.length_cons, Nat.add_mul, Nat.one_mul, Nat.add_comm], fun k hk => ?_, fun k hk => ?_, fun y hy => ?_⟩
        · rw [h4 k (by rw [Nat.add_mul, Nat.one_mul]; omega), getD_toArray, List.append_assoc, getD_append_left _ _ _ _ (by simp; omega), getD_take _ _ _ _ hk, toList_getD]
        · by_cases hkk : k < size
          · rw [getD_append_left _ _ _ _ (by omega), seg k hkk]
            have := hcr.at_ k (by omega)
            rwa [toList_getD] at this
          · rw [getD_append_right _ _ _ _ (by omega), e1]
            have := h5 (k - size) (by simp only [List.length_append, e1] at hk; omega)
            rwa [show (i0 + 1) * size + (k - size) = i0 * size + k by rw [Nat.add_mul, Nat.one_mul]; omega] at this
        · rcases List.mem_append.1 hy with hy | hy
          · intro id hid
            obtain ⟨j, hj⟩ := List.mem_iff_getElem?.1 hy
            exact hx.2 id (cells_has (j := j) (by simp only [List.getD, hj, Option.getD_some]; exact hid))
          · exact h6 y hy
      · cases h
    · cases h
theorem q_buildArr {cfg : Cfg} (hc : CfgOK P cfg) {t e len base : Nat} {ti ei : TI} (ht : cfg.tt t = some ti) (he : ti.elem = some e) (hei : cfg.tt e = some ei) {parts : Array (Nat × Operand)}
    (ho : o.op = .buildSlice t len parts) {get : Nat → A} (hs : Slots w cv ob a get) (hm : MemOK B w cv ob) {l : List A} (hl : litArr ei.size (parts.toList.map fun p => (p.1, opd get p.2)) 0 = some l)
    (hlen : (Nat.beq l.length (len * ei.size) && Nat.beq parts.size len) = true) (hmax : Nat.ble (len * ei.size) 1000 = true) (hf : cv base = none) (hBw : B ≤ w.heap.size) :
    QSound P B cv ob o a w (.sl base len) [(base, .arr e ei.size len l)] := by
  have hu := (hc.tt t ti ht).elem e he
  obtain ⟨i, d, z, hi, hud, hsz, hb, hz, hzz, hag, hzl, hza, hz1⟩ := (hc.tt e ei hei).info
  have hpos := (hc.tt e ei hei).pos
  simp only [Bool.and_eq_true] at hlen
  have elen := Nat.eq_of_beq_eq_true hlen.1
  have eparts := Nat.eq_of_beq_eq_true hlen.2
  have emax := Nat.le_of_ble_eq_true hmax
  have key : ∀ (zc : Array Value), ∃ res : Array Value, Instr.fill (fun i => some (i * ei.size, ei.size)) ((Array.range (len * ei.size)).map (zc[· % zc.size]!)) (parts.toList.map fun p => (p.1, a.eval p.2)) = some res ∧
      res.size = len * ei.size ∧ (∀ k, k < l.length → Rel w cv (res.getD k undef) (l.getD k .any)) ∧ LiveL ob l := by
    intro zc
    have hplen : parts.toList.length = len := by simpa using eparts
    obtain ⟨res, h1, h2, _, _, h5, h6⟩ := fillArr hm hs parts.toList 0 ((Array.range (len * ei.size)).map (zc[· % zc.size]!)) l (by simp at hplen ⊢; rw [hplen]; omega) hl
    exact ⟨res, h1, by simpa using h2, fun k hk => by simpa using h5 k hk, h6⟩
  have hrun : ∃ res : Array Value, (Instr.buildSlice t len (parts.map fun p => (p.1, a.eval p.2))).run P w = .ok (.slice (some ⟨w.heap.size, 0, none⟩) len len) (w.alloc (.cells res e)) ∧
      res.size = len * ei.size ∧ (∀ k, k < l.length → Rel w cv (res.getD k undef) (l.getD k .any)) ∧ LiveL ob l := by
    by_cases h0 : len * ei.size = 0
    · obtain ⟨res, h1, h2, h3⟩ := key #[]
      refine ⟨res, ?_, h2, h3⟩
      unfold Instr.buildSlice
      have h1' : Instr.fill (fun i => some (i * ei.size, ei.size)) ((Array.range (len * ei.size)).map ((#[] : Array Value)[· % (#[] : Array Value).size]!)) (parts.map fun p => (p.1, a.eval p.2)).toList = some res := by simpa using h1
      simp only [Sem.run_bind, run_underlying hu, Result.andThen_ok, run_sizeOf hi, hsz]
      rw [if_neg (by omega)]
      simp only [h0, if_true, Sem.run_bind, Sem.run_pure, Result.andThen_ok] at h1' ⊢
      rw [h1']
      simp [newRow]
    · obtain ⟨res, h1, h2, h3⟩ := key z.cells
      refine ⟨res, ?_, h2, h3⟩
      unfold Instr.buildSlice
      have h1' : Instr.fill (fun i => some (i * ei.size, ei.size)) ((Array.range (len * ei.size)).map (z.cells[· % z.cells.size]!)) (parts.map fun p => (p.1, a.eval p.2)).toList = some res := by simpa using h1
      simp only [Sem.run_bind, run_underlying hu, Result.andThen_ok, run_sizeOf hi, hsz]
      rw [if_neg (by omega), if_neg h0]
      simp only [Sem.run_bind, run_zeroValue hi hz, Sem.run_pure, Result.andThen_ok]
      rw [h1']
      simp [newRow]
  obtain ⟨res, hr, h2, h3, h4⟩ := hrun
  have hst : CvStep B w (w.alloc (.cells res e)) cv (upd cv base (.slice (some ⟨w.heap.size, 0, none⟩) len len)) := cvStep_alloc _ _ (.inr rfl) hf
  have hmx : len ≤ maxLen := by
    have : len ≤ len * ei.size := Nat.le_mul_of_pos_right _ hpos
    unfold maxLen; omega
  refine QSound.alloc (.slice (some ⟨w.heap.size, 0, none⟩) len len) (.slice (some ⟨w.heap.size, 0, none⟩) len len) (.cells res e) ?_ (.inr rfl) hf ?_ (fun i hi => ?_) (.sl fun u hu => ?_) (fun id hid => ?_)
  · simp only [execOp, ho, Sem.run_bind, hr, Result.andThen_ok]
    rfl
  · refine ⟨_, e, res.toList, upd_same _ _ _, ⟨by simpa using h2, .inr ⟨w.heap.size, len, res, rfl, hBw, heap_alloc_new w _, Nat.le_refl _, hmx, h2, ?_⟩⟩, rfl, hpos, elen, ⟨_, _, rfl⟩, fun j hj => ?_⟩
    · rw [← h2, ← Array.length_toList, List.take_length]
    · rw [toList_getD]
      refine (h3 j hj).mono hst.sx fun id hid => ?_
      obtain ⟨u, hu⟩ := hm.live (h4 _ (by rw [List.getD, List.getElem?_eq_getElem hj]; exact List.getElem_mem hj) id hid)
      by_cases hib : id = base
      · rw [hib, hf] at hu; cases hu
      · exact .inr (upd_other _ _ hib)
  · simp only [O.has] at hi
    obtain ⟨x, hx, hxi⟩ := hasAny_iff.1 hi
    exact h4 x hx i hxi
  · rw [upd_same] at hu
    injection hu with hu
    exact ⟨hu, _, _, hu.symm⟩
  · simp only [A.has] at hid
    exact .inr (Nat.eq_of_beq_eq_true hid).symm
omit [XS] in
theorem execOp_builtin {c : Call} (ho : o.op = .call c) {b : Builtin} (hb : c.callee = .builtin b) {f : Array TypeId → TypeId → Array Value → Sem Value} {v : Value} {w' : World}
    (hbf : ∀ ts t cs as, builtin b ts t cs as = (do pure (.value (← f ts t as)))) (hr : (f c.argTypes o.type (c.args.map a.eval)).run P w = .ok v w') : (execOp a.eval o).run P w = .ok (.value v) w' := by
  simp only [execOp, ho, resolve, hb, Sem.run_bind, Sem.run_pure, Result.andThen_ok, invoke, hbf, hr]
theorem lenA_rel {ax : A} {n : Int} {v : Value} (hx : Rel w cv v ax) (hl : Live ob ax) (hm : MemOK B w cv ob) (h : lenA ax = some n) : ∃ p k c, v = .slice p k c ∧ (k : Int) = n := by
  unfold lenA at h
  split at h
  · injection h with h
    obtain ⟨p, c, rfl⟩ := hx.ro_inv.ro_slice
    exact ⟨p, _, c, rfl, h⟩
  · rename_i id len
    injection h with h
    obtain ⟨u, hu⟩ := hm.live (hl id (by simp [A.has]))
    obtain ⟨rfl, p, c, rfl⟩ := hx.sl_inv hu
    exact ⟨p, _, c, rfl, h⟩
  · injection h with h
    obtain ⟨p, rfl⟩ := hx.emp_inv
    exact ⟨p, 0, 0, rfl, by rw [← h]; rfl⟩
  · injection h with h
    obtain rfl := hx.nils_inv
    exact ⟨none, 0, 0, rfl, by rw [← h]; rfl⟩
  · cases h
omit [XS] in
theorem args1 {c : Call} {x : Operand} (h : c.args.toList = [x]) : c.args = #[x] := by
  have := congrArg List.toArray h; simpa using this
omit [XS] in
theorem args2 {c : Call} {x y : Operand} (h : c.args.toList = [x, y]) : c.args = #[x, y] := by
  have := congrArg List.toArray h; simpa using this
theorem q_len {cfg : Cfg} (hc : CfgOK P cfg) {c : Call} (ho : o.op = .call c) (hb : c.callee = .builtin .len) {x : Operand} (hargs : c.args.toList = [x]) {t e : Nat} (hts : c.argTypes.toList = [t]) {ti : TI}
    (ht : cfg.tt t = some ti) (he : ti.elem = some e) {ax : A} (hx : Rel w cv (a.eval x) ax) (hl : Live ob ax) (hm : MemOK B w cv ob) {n : Int} (h : lenA ax = some n) : QSound P B cv ob o a w (.int .i64 n) [] := by
  have hu := (hc.tt t ti ht).elem e he
  obtain ⟨p, k, cp, hv, hk⟩ := lenA_rel hx hl hm h
  have hts' : c.argTypes = #[t] := by have := congrArg List.toArray hts; simpa using this
  refine QSound.value (.int .i64 n) w (execOp_builtin ho hb (f := Builtin.len_) (fun _ _ _ _ => rfl) ?_) (Grow.refl w) (.data (.int _ _)) (live_int _ _) hm
  rw [args1 hargs, hts']
  simp [Builtin.len_, run_underlying hu, hv, goInt, hk]
theorem q_cap {cfg : Cfg} (hc : CfgOK P cfg) {c : Call} (ho : o.op = .call c) (hb : c.callee = .builtin .cap) {x : Operand} (hargs : c.args.toList = [x]) {t e : Nat} (hts : c.argTypes.toList = [t]) {ti : TI}
    (ht : cfg.tt t = some ti) (he : ti.elem = some e) (hx : Rel w cv (a.eval x) .emp) (hm : MemOK B w cv ob) : QSound P B cv ob o a w (.int .i64 0) [] := by
  have hu := (hc.tt t ti ht).elem e he
  obtain ⟨p, hv⟩ := hx.emp_inv
  have hts' : c.argTypes = #[t] := by have := congrArg List.toArray hts; simpa using this
  refine QSound.value (.int .i64 0) w (execOp_builtin ho hb (f := Builtin.cap_) (fun _ _ _ _ => rfl) ?_) (Grow.refl w) (.data (.int _ _)) (live_int _ _) hm
  rw [args1 hargs, hts']
  simp [Builtin.cap_, run_underlying hu, hv, goInt]
theorem q_real {c : Call} (ho : o.op = .call c) (hb : c.callee = .builtin .real) {x : Operand} (hargs : c.args.toList = [x]) {k : FloatKind} {n m : Nat} (hx : Rel w cv (a.eval x) (.cpx k n m)) (hm : MemOK B w cv ob) :
    QSound P B cv ob o a w (.flt k n) [] := by
  obtain ⟨b1, b2, hv, f1, f2⟩ := hx.cpx_inv
  refine QSound.value (.float k b1) w (execOp_builtin ho hb (f := Builtin.real_) (fun _ _ _ _ => rfl) ?_) (Grow.refl w) (.data (.flt f1)) (live_flt _ _) hm
  rw [args1 hargs]
  simp only [List.map_toArray, List.map_cons, List.map_nil, hv]
  exact run_real w _ _ k b1 b2
theorem q_imag {c : Call} (ho : o.op = .call c) (hb : c.callee = .builtin .imag) {x : Operand} (hargs : c.args.toList = [x]) {k : FloatKind} {n m : Nat} (hx : Rel w cv (a.eval x) (.cpx k n m)) (hm : MemOK B w cv ob) :
    QSound P B cv ob o a w (.flt k m) [] := by
  obtain ⟨b1, b2, hv, f1, f2⟩ := hx.cpx_inv
  refine QSound.value (.float k b2) w (execOp_builtin ho hb (f := Builtin.imag_) (fun _ _ _ _ => rfl) ?_) (Grow.refl w) (.data (.flt f2)) (live_flt _ _) hm
  rw [args1 hargs]
  simp only [List.map_toArray, List.map_cons, List.map_nil, hv]
  exact run_imag w _ _ k b1 b2
theorem q_complex {c : Call} (ho : o.op = .call c) (hb : c.callee = .builtin .complex) {x y : Operand} (hargs : c.args.toList = [x, y]) {k : FloatKind} {n m : Nat} (hx : Rel w cv (a.eval x) (.flt k n)) (hy : Rel w cv (a.eval y) (.flt k m)) (hm : MemOK B w cv ob) :
    QSound P B cv ob o a w (.cpx k n m) [] := by
  obtain ⟨b1, h1, f1⟩ := hx.flt_inv
  obtain ⟨b2, h2, f2⟩ := hy.flt_inv
  refine QSound.value (.complex k b1 b2) w (execOp_builtin ho hb (f := Builtin.complex_) (fun _ _ _ _ => rfl) ?_) (Grow.refl w) (.data (.cpx f1 f2)) (live_cpx _ _ _) hm
  rw [args2 hargs]
  simp only [List.map_toArray, List.map_cons, List.map_nil, h1, h2]
  exact run_complex w _ _ k b1 b2
theorem q_max {c : Call} (ho : o.op = .call c) (hb : c.callee = .builtin .max) {x y : Operand} (hargs : c.args.toList = [x, y]) {k : FloatKind} {n m : Nat} (hx : Rel w cv (a.eval x) (.flt k n)) (hy : Rel w cv (a.eval y) (.flt k m)) (hm : MemOK B w cv ob) :
    QSound P B cv ob o a w (.flt k (fmax k n m)) [] := by
  obtain ⟨b1, h1, f1⟩ := hx.flt_inv
  obtain ⟨b2, h2, f2⟩ := hy.flt_inv
  obtain ⟨r, w', hr, hd, hf⟩ := run_fmax (P := P) (w := w) f1 f2
  refine QSound.value' (.float k r) w' (execOp_builtin ho hb (f := Builtin.max_) (fun _ _ _ _ => rfl) ?_) (Grow.of_drew hd) (.data (.flt hf)) (live_flt _ _)
  rw [args2 hargs]
  simp only [List.map_toArray, List.map_cons, List.map_nil, h1, h2]
  simp [Builtin.max_, hr]
theorem toD_datas {obj : Nat → Option O} (hob : ∀ i o', obj i = some o' → ob i = some o') (hm : MemOK B w cv ob) : ∀ fuel,
    (∀ x c d v, toD obj fuel x = some (c, d) → Rel w cv v x → RelD w (fun b => b < w.heap.size) v d) ∧
    (∀ xs c ds, toDs obj fuel xs = some (c, ds) → ds.length = xs.length ∧ ∀ (vs : List Value), (∀ i, i < xs.length → Rel w cv (vs.getD i undef) (xs.getD i .any)) → ∀ i, i < ds.length → RelD w (fun b => b < w.heap.size) (vs.getD i undef) (ds.getD i .any))
  | 0 => ⟨fun x c d v h => by simp [toD] at h, fun xs c ds h => by simp [toDs] at h⟩
  | fuel + 1 => by
    obtain ⟨ih1, ih2⟩ := toD_datas hob hm fuel
    have up : ∀ {v : Value} {d : A}, RelD w (Sx w cv) v d → RelD w (fun b => b < w.heap.size) v d := fun h => h.mono fun b hb => ⟨hb.1, rfl⟩
    refine ⟨fun x c d v h hr => ?_, fun xs c ds h => ?_⟩
    · unfold toD at h
      cases x with
      | any => simp at h
      | bool b => simp only [Option.some.injEq, Prod.mk.injEq] at h; rw [← h.2]; exact up (Rel.toData hr rfl)
      | int k n => simp only [Option.some.injEq, Prod.mk.injEq] at h; rw [← h.2]; exact up (Rel.toData hr rfl)
      | flt k n => simp only [Option.some.injEq, Prod.mk.injEq] at h; rw [← h.2]; exact up (Rel.toData hr rfl)
      | cpx k n m => simp only [Option.some.injEq, Prod.mk.injEq] at h; rw [← h.2]; exact up (Rel.toData hr rfl)
      | nilp => simp only [Option.some.injEq, Prod.mk.injEq] at h; rw [← h.2]; exact up (Rel.toData hr rfl)
      | emp => simp only [Option.some.injEq, Prod.mk.injEq] at h; rw [← h.2]; exact up (Rel.toData hr rfl)
      | nils => simp only [Option.some.injEq, Prod.mk.injEq] at h; rw [← h.2]; exact up (Rel.toData hr rfl)
      | ro e l g => simp only [Option.some.injEq, Prod.mk.injEq] at h; rw [← h.2]; exact up (Rel.toData hr rfl)
      | rop d' off =>
        simp only at h
        split at h
        · rename_i hd
          simp only [Option.some.injEq, Prod.mk.injEq] at h; rw [← h.2]; exact up (Rel.toData hr (by simpa [A.data] using hd))
        · cases h
      | agg cs =>
        simp only at h
        split at h
        · rename_i c' ds hds
          simp only [Option.some.injEq, Prod.mk.injEq] at h; rw [← h.2]
          obtain ⟨vs, rfl, hs, hr'⟩ := hr.agg_inv
          have := ih2 _ _ _ hds
          refine .agg (by rw [hs, this.1]) fun i hi => ?_
          rw [← toList_getD]
          exact this.2 vs.toList (fun j hj => by rw [toList_getD]; exact hr' j hj) i hi
        · cases h
      | tup cs =>
        simp only at h
        split at h
        · rename_i c' ds hds
          simp only [Option.some.injEq, Prod.mk.injEq] at h; rw [← h.2]
          obtain ⟨vs, rfl, hs, hr'⟩ := hr.tup_inv
          have := ih2 _ _ _ hds
          refine .tup (by rw [hs, this.1]) fun i hi => ?_
          rw [← toList_getD]
          exact this.2 vs.toList (fun j hj => by rw [toList_getD]; exact hr' j hj) i hi
        · cases h
      | fn f cs =>
        simp only at h
        split at h
        · rename_i c' ds hds
          simp only [Option.some.injEq, Prod.mk.injEq] at h; rw [← h.2]
          obtain ⟨vs, rfl, hs, hr'⟩ := hr.fn_inv
          have := ih2 _ _ _ hds
          refine .fn (by rw [hs, this.1]) fun i hi => ?_
          rw [← toList_getD]
          exact this.2 vs.toList (fun j hj => by rw [toList_getD]; exact hr' j hj) i hi
        · cases h
      | ptr id off =>
        simp only at h
        split at h
        · rename_i cs hid
          split at h
          · rename_i c' ds hds
            simp only [Option.some.injEq, Prod.mk.injEq] at h; rw [← h.2]
            obtain ⟨b, vs, E, hcv, hheap, hvs, hrel⟩ := (hm.obj id _ (hob _ _ hid)).1
            obtain ⟨b', hb', rfl⟩ := hr.ptr_inv hcv
            injection hb' with hb'; injection hb' with hb'; injection hb' with hb'; subst hb'
            have := ih2 _ _ _ hds
            have hlt : b < w.heap.size := (Array.getElem?_eq_some_iff.1 hheap).1
            have hres := RelD.rop (w := w) (S := fun b => b < w.heap.size) (b := b) (o := 0) (off := off) (d := .agg ds) (fun j => vs.toList.getD j undef) hlt
              (fun j hj => by
                have hj' : j < vs.size := by simp only [A.cells] at hj; omega
                rw [toList_getD, Nat.zero_add, cell_of_row w b j vs E (0, 0) hheap]; simp [Array.getD, hj'])
              (fun j hj => this.2 vs.toList (fun i hi => by rw [toList_getD]; exact hrel i hi) j hj)
            simpa using hres
          · cases h
        · cases h
      | rpt => simp at h
      | sl id len =>
        simp only at h
        split at h
        · rename_i e esz l get hid
          simp only [Option.some.injEq, Prod.mk.injEq] at h; rw [← h.2]
          obtain ⟨u, E, xs, hcv, hown, hE, hpos, hz, hrel⟩ := (hm.obj id _ (hob _ _ hid)).1
          obtain ⟨rfl, p, cp, hu⟩ := hr.sl_inv hcv
          obtain ⟨hxl, hown⟩ := hown
          rcases hown with ⟨hnil, hl0⟩ | ⟨g, cap, cur, hv, hg, hheap, hle, hmax, hcs, htake⟩
          · subst hl0
            rw [hnil]
            exact .ro (b := 0) (o := 0) (Nat.le_refl _) (fun _ _ => undef) (fun h => by omega) (fun i hi => by omega) (fun i j hi => by omega) (fun i j hi => by omega) (fun i j hi => by omega)
          · rw [hv]
            refine .ro (b := g) (o := 0) hle (fun i j => xs.getD (i * esz + j) undef) (fun _ => ⟨rfl, (Array.getElem?_eq_some_iff.1 hheap).1⟩) hz (fun i j hi hj => ?_) (fun i j hi hj => (hrel i j hi hj).1) (fun i j hi hj => up (hrel i j hi hj).2)
            rw [Nat.zero_add, cell_of_row w g _ cur E (0, 0) hheap]
            have hlt := mul_lt hi hj
            have h1 : xs[i * esz + j]? = cur[i * esz + j]? := by rw [← htake, List.getElem?_take, if_pos hlt]; simp
            have hlt2 : i * esz + j < cur.size := by
              have : l * esz ≤ cap * esz := Nat.mul_le_mul_right _ hle
              omega
            simp only [List.getD, h1, Array.getElem?_eq_getElem hlt2, Option.getD_some]
        · cases h
    · cases xs with
      | nil =>
        simp only [toDs, Option.some.injEq, Prod.mk.injEq] at h
        rw [← h.2]
        exact ⟨rfl, fun vs _ i hi => by simp at hi⟩
      | cons x r =>
        simp only [toDs] at h
        split at h
        · rename_i c1 d1 h1
          split at h
          · rename_i c2 ds2 h2
            simp only [Option.some.injEq, Prod.mk.injEq] at h
            rw [← h.2]
            have hr2 := ih2 _ _ _ h2
            refine ⟨by simp [hr2.1], fun vs hvs i hi => ?_⟩
            cases i with
            | zero => exact ih1 _ _ _ _ h1 (hvs 0 (by simp))
            | succ i =>
              have := hr2.2 (vs.drop 1) (fun j hj => by rw [getD_drop, Nat.add_comm]; have := hvs (j + 1) (by simpa using hj); simpa using this) i (by simpa using hi)
              rw [getD_drop, Nat.add_comm] at this
              simpa using this
          · cases h
        · cases h
end
end Go.Fw
