/- A second, deterministic reading of the program, part 1: proved sound for every order and every capacity; then what the functions do. -/
import Derived.AtR
import Derived.RangeFuncIn
import Derived.Laws.World
import Derived.Laws.Rows
import Derived.Laws.Append
import Derived.Laws.Entries
import Derived.Laws.StructEq
import Derived.ChangeKeysEq
import Derived.Laws.BytesString
/- A second, deterministic reading of the program's code: values, heap, and how they stand to the model's own. Nothing is proved here of any one program. -/
namespace Go.Proofs.YtjfnhdiimibmiaaDoor.Sx

/-! ### Tries -/
inductive Tr (α : Type) where
  | e
  | n (l : Tr α) (v : Option α) (r : Tr α)

namespace Tr
variable {α : Type}
def get : Tr α → Nat → Option α
  | .e, _ => none
  | .n _ v _, 0 => v
  | .n l _ r, j + 1 => if j % 2 = 0 then get l (j / 2) else get r (j / 2)
def left : Tr α → Tr α
  | .e => .e
  | .n l _ _ => l
def right : Tr α → Tr α
  | .e => .e
  | .n _ _ r => r
def val : Tr α → Option α
  | .e => none
  | .n _ v _ => v
def setF : Nat → Nat → Option α → Tr α → Tr α
  | 0, _, _, t => t
  | _ + 1, 0, v, t => .n t.left v t.right
  | f + 1, j + 1, v, t => if j % 2 = 0 then .n (setF f (j / 2) v t.left) t.val t.right else .n t.left t.val (setF f (j / 2) v t.right)
def put (t : Tr α) (i : Nat) (v : Option α) : Tr α := setF (i + 1) i v t
def set (t : Tr α) (i : Nat) (v : α) : Tr α := t.put i (some v)

theorem get_zero (t : Tr α) : t.get 0 = t.val := by cases t <;> rfl
theorem get_succ (t : Tr α) (j : Nat) : t.get (j + 1) = if j % 2 = 0 then t.left.get (j / 2) else t.right.get (j / 2) := by
  cases t with
  | e => simp [get, left, right]
  | n l v r => simp [get, left, right]
theorem get_setF (f : Nat) : ∀ (i : Nat) (v : Option α) (t : Tr α) (k : Nat), i < f → (setF f i v t).get k = if k = i then v else t.get k := by
  induction f with
  | zero => intro i v t k h; omega
  | succ f ih =>
    intro i v t k h
    cases i with
    | zero =>
      cases k with
      | zero => simp [setF, get_zero, val]
      | succ k => rw [setF, get_succ, get_succ]; simp [left, right]
    | succ j =>
      cases k with
      | zero =>
        rw [setF, get_zero, get_zero, if_neg (show ¬ (0 = j + 1) by omega)]
        split <;> rfl
      | succ k =>
        rw [setF]
        by_cases hj : j % 2 = 0
        · rw [if_pos hj, get_succ, get_succ]
          simp only [left, right]
          by_cases hk : k % 2 = 0
          · rw [if_pos hk, if_pos hk, ih _ _ _ _ (by omega)]
            by_cases e : k = j
            · subst e; simp
            · rw [if_neg (by omega), if_neg (by omega)]
          · rw [if_neg hk, if_neg hk, if_neg (by omega)]
        · rw [if_neg hj, get_succ, get_succ]
          simp only [left, right]
          by_cases hk : k % 2 = 0
          · rw [if_pos hk, if_pos hk, if_neg (by omega)]
          · rw [if_neg hk, if_neg hk, ih _ _ _ _ (by omega)]
            by_cases e : k = j
            · subst e; simp
            · rw [if_neg (by omega), if_neg (by omega)]
theorem get_put (t : Tr α) (i : Nat) (v : Option α) (k : Nat) : (t.put i v).get k = if k = i then v else t.get k := get_setF _ _ _ _ _ (by omega)
theorem get_set (t : Tr α) (i : Nat) (v : α) (k : Nat) : (t.set i v).get k = if k = i then some v else t.get k := get_put _ _ _ _
theorem get_e (k : Nat) : (Tr.e : Tr α).get k = none := by cases k <;> rfl
end Tr

/-! ### Values -/
/-- A block: one of the call's own, or one that lay in memory when the call began. -/
inductive Rf where
  | own (i : Nat)
  | old (b : Nat)
  deriving DecidableEq
structure Ad where
  rf : Rf
  off : Nat
  deriving DecidableEq
/-- A capacity: known, or that of a row that append has made (its elements take so many cells). -/
inductive Cap where
  | exact (c : Nat)
  | opn (es : Nat)
  deriving DecidableEq

inductive AV where
  | unk
  | bool (b : Bool)
  | int (k : IntKind) (n : Int)
  | str (s : List UInt8)
  | ptr (a : Option Ad)
  | sl (a : Option Ad) (len : Nat) (cap : Cap)
  | emp
  | fin (a : Ad) (es : Nat)
  | map (r : Option Rf)
  | fn (f : FuncId) (first captured : List AV)
  | yld (l : Nat)
  | nfn
  | ifc (t : TypeId) (v : AV)
  | nif
  | agg (cs : List AV)
  | tup (vs : List AV)
  deriving Inhabited

def AV.cells : AV → List AV
  | .agg cs => cs
  | v => [v]

/-! ### Cells of a block -/
inductive Cells where
  | lst (l : List AV)
  | big (n : Nat) (d : List AV) (t : Tr AV)

namespace Cells
def size : Cells → Nat
  | .lst l => l.length
  | .big n _ _ => n
def get : Cells → Nat → Option AV
  | .lst l, i => l[i]?
  | .big n d t, i => if i < n then (match t.get i with | some v => some v | none => some (d[i % d.length]?.getD .unk)) else none
def set : Cells → Nat → AV → Cells
  | .lst l, i, v => .lst (l.set i v)
  | .big n d t, i, v => .big n d (t.set i v)
def getN (c : Cells) : Nat → Nat → Option (List AV)
  | _, 0 => some []
  | o, n + 1 => match c.get o with
    | some v => match getN c (o + 1) n with
      | some l => some (v :: l)
      | none => none
    | none => none
def setN (c : Cells) : Nat → List AV → Cells
  | _, [] => c
  | o, v :: l => (c.set o v).setN (o + 1) l
def toList (c : Cells) : List AV := (c.getN 0 c.size).getD []

theorem get_lt {c : Cells} {i : Nat} {v : AV} (h : c.get i = some v) : i < c.size := by
  cases c with
  | lst l => exact (List.getElem?_eq_some_iff.1 h).1
  | big n d t =>
    simp only [get] at h
    by_cases hi : i < n
    · exact hi
    · simp [hi] at h
theorem size_set (c : Cells) (i : Nat) (v : AV) : (c.set i v).size = c.size := by cases c <;> simp [set, size]
theorem get_set (c : Cells) (i : Nat) (v : AV) (k : Nat) (h : i < c.size) : (c.set i v).get k = if k = i then some v else c.get k := by
  cases c with
  | lst l =>
    simp only [set, get, List.getElem?_set]
    simp only [size] at h
    by_cases e : i = k
    · subst e; simp [h]
    · rw [if_neg e, if_neg (fun x => e x.symm)]
  | big n d t =>
    simp only [set, get, Tr.get_set]
    simp only [size] at h
    by_cases e : k = i
    · subst e; simp [h]
    · simp [e]
theorem size_setN (l : List AV) : ∀ (c : Cells) (o : Nat), (c.setN o l).size = c.size := by
  induction l with
  | nil => intro c o; rfl
  | cons v l ih => intro c o; rw [setN, ih, size_set]
theorem get_setN (l : List AV) : ∀ (c : Cells) (o k : Nat), o + l.length ≤ c.size → (c.setN o l).get k = if o ≤ k ∧ k < o + l.length then l[k - o]? else c.get k := by
  induction l with
  | nil => intro c o k h; rw [setN, if_neg (by simp only [List.length_nil]; omega)]
  | cons v l ih =>
    intro c o k h
    simp only [List.length_cons] at h ⊢
    rw [setN, ih _ _ _ (by rw [size_set]; omega), get_set _ _ _ _ (by omega)]
    by_cases e : k = o
    · subst e
      rw [if_neg (by omega), if_pos rfl, if_pos (by omega)]; simp
    · rw [if_neg e]
      by_cases h1 : o + 1 ≤ k ∧ k < o + 1 + l.length
      · rw [if_pos h1, if_pos (by omega)]
        obtain ⟨q, rfl⟩ : ∃ q, k = o + 1 + q := ⟨k - (o + 1), by omega⟩
        rw [show o + 1 + q - (o + 1) = q from by omega, show o + 1 + q - o = q + 1 from by omega]; simp
      · rw [if_neg h1, if_neg (by omega)]
theorem getN_get {c : Cells} : ∀ {n o : Nat} {l : List AV}, c.getN o n = some l → l.length = n ∧ ∀ j, j < n → c.get (o + j) = l[j]? := by
  intro n
  induction n with
  | zero => intro o l h; simp only [getN, Option.some.injEq] at h; subst h; exact ⟨rfl, fun j hj => by omega⟩
  | succ n ih =>
    intro o l h
    simp only [getN] at h
    cases hv : c.get o with
    | none => simp [hv] at h
    | some v =>
      cases hl : c.getN (o + 1) n with
      | none => simp [hv, hl] at h
      | some l' =>
        simp only [hv, hl, Option.some.injEq] at h
        subst h
        obtain ⟨h1, h2⟩ := ih hl
        refine ⟨by simp [h1], fun j hj => ?_⟩
        cases j with
        | zero => simp [hv]
        | succ j => rw [show o + (j + 1) = o + 1 + j from by omega, h2 j (by omega)]; simp
end Cells

/-! ### The heap -/
/-- Operands. -/
inductive SX where
  | tmp (t : Nat)
  | c (v : AV)
  | g (n : Nat)
  | fn (f : FuncId)
  deriving Inhabited

/-- What kind of values an equation is between. -/
inductive LK where
  | i | s | b
  deriving DecidableEq, Inhabited
inductive EqK where
  | bool | ptr | sl | map | fn | ifc | agg (ls : List LK)
  deriving DecidableEq, Inhabited
/-- Keys of a map: one cell, or several. -/
inductive KS where
  | leaf (k : LK)
  | agg (ls : List LK)
  deriving DecidableEq, Inhabited
/-- Operations that look at nothing but their operands. -/
inductive PK where
  | eq (neg : Bool) (kd : EqK) (x y : SX)
  | move (x : SX)
  | pick (c a b : SX)
  | build (zero : List AV) (parts : List (Nat × Nat × SX))
  | nilc (x : SX)
  | bin (op : BinOp) (x y : SX)
  | un (op : UnOp) (x : SX)
  | conv (k : IntKind) (x : SX)
  | conS (x : SX)
  | iface (t : TypeId) (x : SX)
  | mkfn (f : FuncId) (first captured : List SX)
  | faddr (off : Nat) (x : SX)
  | field (off : Nat) (n : Option Nat) (x : SX)
  | iaddr (es : Nat) (x i : SX)
  | iaddrA (len es : Nat) (x i : SX)
  | indexA (len es : Nat) (agg : Bool) (x i : SX)
  | indexS (x i : SX)
  | slS (x : SX) (lo hi : Option SX)
  | sl (es : Nat) (x : SX) (lo hi mx : Option SX)
  | slA (len es : Nat) (x : SX) (lo hi mx : Option SX)
  | len (x : SX)
  | lenS (x : SX)
  | lenK (n : Nat)
  | cap (x : SX)
  | ext (x : SX) (i : Nat)
  | mm (isMax : Bool) (x : SX) (rest : List SX)
  | toArr (n : Nat) (x : SX)
  | assertT (t : TypeId) (ok : Bool) (zero : AV) (x : SX)
  deriving Inhabited
/-- Operations that read memory. -/
inductive RK where
  | load (n : Option Nat) (x : SX)
  | look (ok : Bool) (ks : KS) (zero : AV) (m k : SX)
  | lenM (m : SX)
  | b2s (x : SX)
  deriving Inhabited
/-- Operations that make one block. -/
inductive AK where
  | box (t : TypeId) (x : SX)
  | mkmap
  | mksl (t : TypeId) (es bytes : Nat) (zero : List AV) (len cap : SX)
  | bsl (t : TypeId) (n es : Nat) (zero : List AV) (parts : List (Nat × Nat × SX))
  | s2b (t : TypeId) (x : SX)
  deriving Inhabited
/-- Operations that act. -/
inductive EK where
  | store (n : Nat) (x v : SX)
  | mupd (ks : KS) (m k v : SX)
  | callf (f : FuncId) (args : List SX)
  | callv (f : SX) (args : List SX)
  | app (t : TypeId) (es bytes : Nat) (ofStr : Bool) (s x : SX)
  | appz (t : TypeId) (bytes : Nat) (s n : SX)
  | copy (es : Nat) (dst src : SX)
  | del (ks : KS) (m k : SX)
  deriving Inhabited
inductive SK where
  | p (o : PK)
  | r (o : RK)
  | a (o : AK)
  | e (o : EK)
  deriving Inhabited
structure SOp where
  dst : Option Nat
  guard : Option (Nat × Bool)
  k : SK
  deriving Inhabited
/-- An operation of a region that draws its order: its number in the region, how many of the region's deeds must and may stand ahead of it. -/
structure DOp where
  num : Nat
  lo : Nat
  mask : List Nat
  op : SOp
  deriving Inhabited
inductive SC where
  | skip
  | ops (l : List SOp)
  | draw (ids : Nat) (l : List DOp)
  | seq (a b : SC)
  | cond (c : SX) (a b : SC)
  | block (id : Nat) (b : SC)
  | loop (b : SC)
  | scope (b : SC)
  | exit (id : Nat)
  | ret
  | rangeFunc (f : SX) (params : List Nat) (assign body : SC)
  deriving Inhabited

/-- How a piece of code is left. -/
inductive Lv where
  | normal
  | exit (id : Nat)
  | ret
  deriving DecidableEq, Inhabited

abbrev Tm := Tr AV

inductive AObj where
  | cells (c : Cells) (t : TypeId) (line : Option Nat)
  | map (es : List (AV × AV))
  | loop (st : LoopState) (pending : Option Lv) (tm : Tm) (params : List Nat) (assign body : SC) (defers : Nat)
  | deferred (isOpen : Bool)

structure Heap where
  next : Nat
  objs : Tr AObj
  lines : Tr (Nat × Nat)

namespace Heap
/-- The block of that number, if it has not been given up. -/
def get (H : Heap) (i : Nat) : Option AObj :=
  match H.objs.get i with
  | some (.cells c t (some l)) => match H.lines.get l with
    | some (floor, _) => if floor ≤ i then some (.cells c t (some l)) else none
    | none => none
  | o => o
def new (H : Heap) (o : AObj) : Heap := { H with next := H.next + 1, objs := H.objs.set H.next o }
def setAt (H : Heap) (i : Nat) (o : AObj) : Heap := { H with objs := H.objs.set i o }
end Heap
end Go.Proofs.YtjfnhdiimibmiaaDoor.Sx

/- How the second reading carries out an operation. -/
namespace Go.Proofs.YtjfnhdiimibmiaaDoor.Sx

/-- A value of the model's memory, as the second reading has it; what it does not speak of is unknown. -/
def enc : Value → AV
  | .bool b => .bool b
  | .int k n => .int k n
  | .string s => .str s.data.toList
  | .pointer none => .ptr none
  | .pointer (some ⟨b, o, none⟩) => .ptr (some ⟨.old b, o⟩)
  | .slice none l c => .sl none l (.exact c)
  | .slice (some _) 0 0 => .emp
  | .slice (some ⟨b, o, none⟩) l c => .sl (some ⟨.old b, o⟩) l (.exact c)
  | .map none => .map none
  | .map (some r) => .map (some (.old r))
  | .nilFunc => .nfn
  | .nilIface => .nif
  | _ => .unk

def getX (A : Tm) (t : Nat) : AV := match A.get t with
  | some v => v
  | none => .unk
def evX (A : Tm) : SX → AV
  | .tmp t => getX A t
  | .c v => v
  | .g n => .ptr (some ⟨.old n, 0⟩)
  | .fn f => .fn f [] []
def putT (A : Tm) (d : Option Nat) (v : AV) : Tm := match d with
  | some d => A.set d v
  | none => A

/-! ### Equality -/
/-- Two cells of a kind. -/
def eqLeaf : LK → AV → AV → Option Bool
  | .i, .int k a, .int k' b => if k = k' then some (a == b) else none
  | .s, .str a, .str b => some (a == b)
  | .b, .bool a, .bool b => some (a == b)
  | _, _, _ => none
/-- Cells of known kinds, one by one. -/
def eqL : List LK → List AV → List AV → Option Bool
  | [], [], [] => some true
  | k :: ls, x :: xs, y :: ys => match eqLeaf k x y with
    | some true => eqL ls xs ys
    | some false => if ls.length = xs.length ∧ ls.length = ys.length then some false else none
    | none => none
  | _, _, _ => none

def bits (op : BinOp) (k : IntKind) (x y : Int) : Option Int :=
  let a := BitVec.ofInt k.bits x
  let b := BitVec.ofInt k.bits y
  match op with
  | .and => some (k.wrap (a &&& b).toNat)
  | .or => some (k.wrap (a ||| b).toNat)
  | .xor => some (k.wrap (a ^^^ b).toNat)
  | .andNot => some (k.wrap (a &&& ~~~b).toNat)
  | _ => none
def binI (op : BinOp) (k : IntKind) (x y : Int) : Option AV :=
  match op with
  | .add => some (.int k (k.wrap (x + y)))
  | .sub => some (.int k (k.wrap (x - y)))
  | .mul => some (.int k (k.wrap (x * y)))
  | .quo => if y = 0 then none else some (.int k (k.wrap (x.tdiv y)))
  | .rem => if y = 0 then none else some (.int k (x.tmod y))
  | .eql => some (.bool (x == y))
  | .neq => some (.bool (x != y))
  | .lss => some (.bool (x < y))
  | .leq => some (.bool (x ≤ y))
  | .gtr => some (.bool (x > y))
  | .geq => some (.bool (x ≥ y))
  | op => (bits op k x y).map (.int k ·)
def shiftI (op : BinOp) (k : IntKind) (x y : Int) : Option AV :=
  if y < 0 then none else
  let n := min y.toNat k.bits
  match op with
  | .shl => some (.int k (k.wrap (x * 2 ^ n)))
  | .shr => some (.int k (x.fdiv (2 ^ n)))
  | _ => none
def binS (op : BinOp) (x y : List UInt8) : Option AV :=
  match op with
  | .add => if x.length + y.length < 9223372036854775808 then some (.str (x ++ y)) else none
  | .eql => some (.bool (x == y))
  | .neq => some (.bool !(x == y))
  | .lss => some (.bool (Op.bytesLess x y))
  | .leq => some (.bool (Op.bytesLess x y || x == y))
  | .gtr => some (.bool !(Op.bytesLess x y || x == y))
  | .geq => some (.bool !(Op.bytesLess x y))
  | _ => none
def bin (op : BinOp) : AV → AV → Option AV
  | .int k x, .int k' y => match op with
    | .shl => shiftI .shl k x y
    | .shr => shiftI .shr k x y
    | _ => if k = k' then binI op k x y else none
  | .str x, .str y => binS op x y
  | _, _ => none
def eqV (kd : EqK) : AV → AV → Option Bool
  | .bool a, .bool b => if kd = .bool then some (a == b) else none
  | .ptr none, .ptr b => if kd = .ptr then some b.isNone else none
  | .ptr (some _), .ptr none => if kd = .ptr then some false else none
  | .sl none _ _, .sl b _ _ => if kd = .sl then some b.isNone else none
  | .sl (some _) _ _, .sl none _ _ => if kd = .sl then some false else none
  | .emp, .sl none _ _ => if kd = .sl then some false else none
  | .sl none _ _, .emp => if kd = .sl then some false else none
  | .fin _ _, .sl none _ _ => if kd = .sl then some false else none
  | .sl none _ _, .fin _ _ => if kd = .sl then some false else none
  | .map none, .map b => if kd = .map then some b.isNone else none
  | .map (some _), .map none => if kd = .map then some false else none
  | .nfn, .nfn => if kd = .fn then some true else none
  | .nfn, .fn _ _ _ => if kd = .fn then some false else none
  | .fn _ _ _, .nfn => if kd = .fn then some false else none
  | .nfn, .yld _ => if kd = .fn then some false else none
  | .yld _, .nfn => if kd = .fn then some false else none
  | .nif, .nif => if kd = .ifc then some true else none
  | .nif, .ifc _ _ => if kd = .ifc then some false else none
  | .ifc _ _, .nif => if kd = .ifc then some false else none
  | .agg xs, .agg ys => match kd with
    | .agg ls => eqL ls xs ys
    | _ => none
  | _, _ => none

/-! ### Pure operations -/
def fill (cells : List AV) : List (Nat × Nat × AV) → Option (List AV)
  | [] => some cells
  | (off, size, v) :: r =>
    match v with
    | .unk => none
    | v => if v.cells.length = size then (if off + size ≤ cells.length then fill (cells.take off ++ v.cells ++ cells.drop (off + size)) r else none) else none
def inI (n : Int) (hi : Nat) : Option Nat := if 0 ≤ n then (if n.toNat ≤ hi then some n.toNat else none) else none
def bound (A : Tm) (x : SX) (hi : Nat) : Option Nat := match evX A x with
  | .int _ n => inI n hi
  | _ => none
/-- low, high, max of a slice expression. -/
def bounds (A : Tm) (len cap : Nat) (lo hi mx : Option SX) : Option (Nat × Nat × Nat) :=
  match (match mx with | none => some cap | some x => bound A x cap) with
  | none => none
  | some m => match (match hi with | none => (if mx.isNone then some len else none) | some x => bound A x m) with
    | none => none
    | some h => match (match lo with | none => some 0 | some x => bound A x h) with
      | none => none
      | some l => some (l, h, m)
/-- The lowest of three numbers that a slice is cut at, where the capacity is not known. -/
def boundsO (A : Tm) (len : Nat) (lo hi : Option SX) : Option (Nat × Nat) :=
  match (match hi with | none => some len | some x => bound A x len) with
  | none => none
  | some h => match (match lo with | none => some 0 | some x => bound A x h) with
    | none => none
    | some l => some (l, h)
def cutAV (A : Tm) (es : Nat) (lo hi mx : Option SX) : AV → Option AV
  | .sl a len (.exact c) => match bounds A len c lo hi mx with
    | some (l, h, m) => some (.sl (if m = l then a else a.map fun a => ⟨a.rf, a.off + l * es⟩) (h - l) (.exact (m - l)))
    | none => none
  | .sl (some a) len (.opn e) => match mx with
    | none => if e = es then (match boundsO A len lo hi with
      | some (l, h) => if l = 0 then some (.sl (some a) h (.opn e)) else if l < len then some (.sl (some ⟨a.rf, a.off + l * es⟩) (h - l) (.opn e)) else some (.fin ⟨a.rf, a.off + l * es⟩ e)
      | none => none) else none
    | some _ => match bounds A len len lo hi mx with
      | some (l, h, m) => some (.sl (if m = l then some a else some ⟨a.rf, a.off + l * es⟩) (h - l) (.exact (m - l)))
      | none => none
  | .emp => match mx with
    | none => match boundsO A 0 lo hi with
      | some _ => some .emp
      | none => none
    | some _ => none
  | .fin a e => match mx with
    | none => match boundsO A 0 lo hi with
      | some _ => some (.fin a e)
      | none => none
    | some _ => none
  | _ => none
def mm2 (isMax : Bool) : AV → AV → Option AV
  | .int k x, .int _ y => some (.int k (if isMax then (if y > x then y else x) else (if y < x then y else x)))
  | _, _ => none
def mmL (isMax : Bool) (x : AV) : List AV → Option AV
  | [] => some x
  | y :: r => match mm2 isMax x y with
    | some z => mmL isMax z r
    | none => none
def partAV (cs : List AV) (off : Nat) : Option Nat → Option AV
  | none => cs[off]?
  | some n => if off + n ≤ cs.length then some (.agg ((cs.drop off).take n)) else none
def evP (A : Tm) : PK → Option AV
  | .move x => some (evX A x)
  | .pick c a b => match evX A c with
    | .bool true => some (evX A a)
    | .bool false => some (evX A b)
    | _ => none
  | .build zero parts => (fill zero (parts.map fun (o, s, x) => (o, s, evX A x))).map .agg
  | .nilc x => match evX A x with
    | .ptr (some a) => some (.ptr (some a))
    | .fn f a b => some (.fn f a b)
    | .yld l => some (.yld l)
    | _ => none
  | .bin op x y => bin op (evX A x) (evX A y)
  | .eq neg kd x y => (eqV kd (evX A x) (evX A y)).map fun b => .bool (if neg then !b else b)
  | .un op x => match op, evX A x with
    | .not, .bool b => some (.bool !b)
    | .neg, .int k n => some (.int k (k.wrap (0 - n)))
    | .xor, .int k n => (bits .xor k (if k.signed then -1 else k.max) n).map (.int k ·)
    | _, _ => none
  | .conv k x => match evX A x with
    | .int _ n => some (.int k (k.wrap n))
    | _ => none
  | .conS x => match evX A x with
    | .str s => some (.str s)
    | _ => none
  | .iface t x => match evX A x with
    | .unk => none
    | v => some (.ifc t v)
  | .mkfn f first captured => some (.fn f (first.map (evX A)) (captured.map (evX A)))
  | .faddr off x => match evX A x with
    | .ptr (some a) => some (.ptr (some ⟨a.rf, a.off + off⟩))
    | _ => none
  | .field off n x => match evX A x with
    | .agg cs => partAV cs off n
    | _ => none
  | .iaddr es x i => match evX A x, evX A i with
    | .sl (some a) len _, .int _ i => if 0 ≤ i ∧ i < len then some (.ptr (some ⟨a.rf, a.off + i.toNat * es⟩)) else none
    | _, _ => none
  | .iaddrA len es x i => match evX A x, evX A i with
    | .ptr (some a), .int _ i => if 0 ≤ i ∧ i < len then some (.ptr (some ⟨a.rf, a.off + i.toNat * es⟩)) else none
    | _, _ => none
  | .indexA len es agg x i => match evX A x, evX A i with
    | .agg cs, .int _ i => if 0 ≤ i ∧ i < len then partAV cs (i.toNat * es) (if agg then some es else none) else none
    | _, _ => none
  | .indexS x i => match evX A x, evX A i with
    | .str s, .int _ i => if 0 ≤ i then (s[i.toNat]?).map fun b => .int .u8 b.toNat else none
    | _, _ => none
  | .slS x lo hi => match evX A x with
    | .str s => match bounds A s.length s.length lo hi none with
      | some (l, h, _) => some (.str ((s.take h).drop l))
      | none => none
    | _ => none
  | .sl es x lo hi mx => cutAV A es lo hi mx (evX A x)
  | .slA len es x lo hi mx => match evX A x with
    | .ptr (some a) => match bounds A len len lo hi mx with
      | some (l, h, m) => some (.sl (some (if m = l then a else ⟨a.rf, a.off + l * es⟩)) (h - l) (.exact (m - l)))
      | none => none
    | _ => none
  | .len x => match evX A x with
    | .sl _ n _ => some (.int .i64 n)
    | .emp => some (.int .i64 0)
    | .fin _ _ => some (.int .i64 0)
    | _ => none
  | .lenS x => match evX A x with
    | .str s => some (.int .i64 s.length)
    | _ => none
  | .lenK n => some (.int .i64 n)
  | .cap x => match evX A x with
    | .sl _ _ (.exact c) => some (.int .i64 c)
    | _ => none
  | .ext x i => match evX A x with
    | .tup vs => vs[i]?
    | _ => none
  | .mm isMax x r => match evX A x with
    | .int k n => mmL isMax (.int k n) (r.map (evX A))
    | _ => none
  | .toArr n x => match evX A x with
    | .sl (some a) len _ => if n ≤ len then some (.ptr (some a)) else none
    | _ => none
  | .assertT t ok zero x => match evX A x with
    | .ifc u v => if u = t then some (if ok then .tup [v, .bool true] else v) else (if ok then some (.tup [zero, .bool false]) else none)
    | .nif => if ok then some (.tup [zero, .bool false]) else none
    | _ => none

/-! ### Reading -/
def blkOf (W : World) (H : Heap) : Rf → Option Cells
  | .own i => match H.get i with
    | some (.cells c _ _) => some c
    | _ => none
  | .old b => match W.heap[b]? with
    | some (.cells c _ _) => some (.lst (c.toList.map enc))
    | _ => none
def mapOf (W : World) (H : Heap) : Rf → Option (List (AV × AV))
  | .own i => match H.get i with
    | some (.map es) => some es
    | _ => none
  | .old b => match W.heap[b]? with
    | some (.map es _) => some (es.toList.map fun e => (enc e.key, enc e.val))
    | _ => none
def fitLeaf : LK → AV → Bool
  | .i, .int _ _ => true
  | .s, .str _ => true
  | .b, .bool _ => true
  | _, _ => false
def fitL : List LK → List AV → Bool
  | [], [] => true
  | k :: ls, x :: xs => fitLeaf k x && fitL ls xs
  | _, _ => false
def fitK : KS → AV → Bool
  | .leaf k, v => fitLeaf k v
  | .agg ls, .agg cs => fitL ls cs
  | _, _ => false
def eqKey : KS → AV → AV → Option Bool
  | .leaf k, x, y => eqLeaf k x y
  | .agg ls, .agg xs, .agg ys => eqL ls xs ys
  | _, _, _ => none
/-- Where a key stands. -/
def findK (ks : KS) (k : AV) : List (AV × AV) → Nat → Option (Option (Nat × AV))
  | [], _ => some none
  | e :: r, i => match eqKey ks k e.1 with
    | some true => some (some (i, e.2))
    | some false => findK ks k r (i + 1)
    | none => none
def lookV (ok : Bool) (zero : AV) (r : Option (Nat × AV)) : AV := match r with
  | some (_, v) => if ok then .tup [v, .bool true] else v
  | none => if ok then .tup [zero, .bool false] else zero
def bytesOfL : List AV → Option (List UInt8)
  | [] => some []
  | .int .u8 n :: r => match bytesOfL r with
    | some l => some (UInt8.ofNat n.toNat :: l)
    | none => none
  | _ => none
def evR (W : World) (H : Heap) (A : Tm) : RK → Option AV
  | .load n x => match evX A x with
    | .ptr (some a) => match blkOf W H a.rf with
      | some c => match n with
        | none => c.get a.off
        | some k => (c.getN a.off k).map .agg
      | none => none
    | _ => none
  | .look ok ks zero m k => match evX A m with
    | .map none => if fitK ks (evX A k) then some (lookV ok zero none) else none
    | .map (some r) => match mapOf W H r with
      | some es => if fitK ks (evX A k) then (findK ks (evX A k) es 0).map (lookV ok zero) else none
      | none => none
    | _ => none
  | .lenM m => match evX A m with
    | .map none => some (.int .i64 0)
    | .map (some r) => (mapOf W H r).map fun es => .int .i64 es.length
    | _ => none
  | .b2s x => match evX A x with
    | .sl none _ _ => some (.str [])
    | .emp => some (.str [])
    | .fin _ _ => some (.str [])
    | .sl (some a) len _ => match blkOf W H a.rf with
      | some c => match c.getN a.off len with
        | some l => (bytesOfL l).map .str
        | none => none
      | none => none
    | _ => none

/-! ### One new block -/
def zerosL (zero : List AV) (n : Nat) : List AV := (List.replicate n zero).flatten
def mkCells (zero : List AV) (n : Nat) : Cells := if n * zero.length < 256 then .lst (zerosL zero n) else .big (n * zero.length) zero .e
/-- What the block that is to have that number holds, and the value. -/
def evA (A : Tm) (id : Nat) : AK → Option (AObj × AV)
  | .box t x => match evX A x with
    | .unk => none
    | v => some (.cells (.lst v.cells) t none, .ptr (some ⟨.own id, 0⟩))
  | .mkmap => some (.map [], .map (some (.own id)))
  | .mksl t es bytes zero len cap => match evX A len, evX A cap with
    | .int _ l, .int _ c =>
      if 0 ≤ l ∧ l ≤ c ∧ bytes * c ≤ 140737488355328 ∧ c < 9223372036854775808 ∧ zero.length = es ∧ 0 < es then
        some (.cells (mkCells zero c.toNat) t none, .sl (some ⟨.own id, 0⟩) l.toNat (.exact c.toNat))
      else none
    | _, _ => none
  | .bsl t n es zero parts => match fill (zerosL zero n) (parts.map fun (o, s, x) => (o, s, evX A x)) with
    | some cs => if n * es ≤ 16777216 ∧ zero.length = es then some (.cells (.lst cs) t none, .sl (some ⟨.own id, 0⟩) n (.exact n)) else none
    | none => none
  | .s2b t x => match evX A x with
    | .str s => if s.length < 140737488355328 then some (.cells (.lst (s.map fun b => .int .u8 b.toNat)) t (some id), .sl (some ⟨.own id, 0⟩) s.length (.opn 1)) else none
    | _ => none
/-- The block lies there. -/
def Heap.lay (H : Heap) (id : Nat) (o : AObj) : Heap :=
  match o with
  | .cells c t (some l) => { H with objs := H.objs.set id (.cells c t (some l)), lines := H.lines.set l (id, id) }
  | o => { H with objs := H.objs.set id o }
def Heap.push (H : Heap) (o : AObj) : Heap := { H.lay H.next o with next := H.next + 1 }

/-! ### Deeds -/
/-- A value of one cell. -/
def oneC : AV → Bool
  | .unk | .agg _ | .tup _ => false
  | _ => true
def Heap.write (H : Heap) (i off : Nat) (vs : List AV) : Option Heap :=
  match H.get i with
  | some (.cells c t none) => if off + vs.length ≤ c.size ∧ vs.all oneC = true then some (H.setAt i (.cells (c.setN off vs) t none)) else none
  | some (.cells c t (some l)) => match H.lines.get l with
    | some (_, tip) => if tip = i then (if off + vs.length ≤ c.size ∧ vs.all oneC = true then some { H with objs := H.objs.set i (.cells (c.setN off vs) t (some l)), lines := H.lines.set l (i, i) } else none) else none
    | none => none
  | _ => none
def noUnk : AV → Bool
  | .unk => false
  | _ => true
def storeA (H : Heap) (n : Nat) (p v : AV) : Option Heap :=
  match p with
  | .ptr (some ⟨.own i, off⟩) => if noUnk v then (if v.cells.length = n then H.write i off v.cells else none) else none
  | _ => none
def updK (ks : KS) (es : List (AV × AV)) (k v : AV) : Option (List (AV × AV)) :=
  match findK ks k es 0 with
  | some (some (i, _)) => some (es.set i (k, v))
  | some none => some (es ++ [(k, v)])
  | none => none
def mupdA (H : Heap) (ks : KS) (m k v : AV) : Option Heap :=
  match m with
  | .map (some (.own i)) => match H.get i with
    | some (.map es) => if fitK ks k then (match updK ks es k v with
      | some es' => some (H.setAt i (.map es'))
      | none => none) else none
    | _ => none
  | _ => none
def delA (H : Heap) (ks : KS) (m k : AV) : Option Heap :=
  match m with
  | .map none => if fitK ks k then some H else none
  | .map (some (.own i)) => match H.get i with
    | some (.map es) => if fitK ks k then (match findK ks k es 0 with
      | some (some (i', _)) => some (H.setAt i (.map (es.eraseIdx i')))
      | some none => some H
      | none => none) else none
    | _ => none
  | _ => none
/-- What is appended: so many elements, their cells. -/
def srcA (W : World) (H : Heap) (es : Nat) (ofStr : Bool) (x : AV) : Option (Nat × List AV) :=
  match x, ofStr with
  | .str s, true => some (s.length, s.map fun b => .int .u8 b.toNat)
  | .sl none n _, false => if n = 0 then some (0, []) else none
  | .emp, false => some (0, [])
  | .fin _ _, false => some (0, [])
  | .sl (some a) n _, false => match blkOf W H a.rf with
    | some c => match c.getN a.off (n * es) with
      | some l => some (n, l)
      | none => none
    | none => none
  | _, _ => none
/-- A row that append makes anew. -/
def appNew (H : Heap) (t bytes : Nat) (es : Nat) (old new : List AV) (need : Nat) : Option (AV × Heap) :=
  if need * bytes ≤ 140737488355328 then
    some (.sl (some ⟨.own H.next, 0⟩) need (.opn es), H.push (.cells (.lst (old ++ new)) t (some H.next)))
  else none
/-- So many elements are appended, these cells. -/
def appN (W : World) (H : Heap) (t es bytes : Nat) (s : AV) (k : Nat) (new : List AV) : Option (AV × Heap) :=
    match s with
    | .sl none len (.exact c) =>
      if len = 0 ∧ c = 0 then (if k = 0 then some (.sl none 0 (.exact 0), H) else appNew H t bytes es [] new k) else none
    | .emp => if k = 0 then some (.emp, H) else none
    | .fin a e => if k = 0 then some (.fin a e, H) else (match a.rf with
      | .own i => if e = es ∧ 0 < es then (match H.get i with
        | some (.cells c t' (some l)) => if a.off = c.size ∧ t' = t then (match H.lines.get l with
          | some (_, tip) => if k * bytes ≤ 140737488355328 ∧ new.all oneC = true then
              some (.sl (some ⟨.own H.next, 0⟩) k (.opn es),
                { next := H.next + 1, objs := H.objs.set H.next (.cells (.lst new) t (some H.next)), lines := (H.lines.set l (H.next + 1, tip)).set H.next (H.next, H.next) })
            else none
          | none => none) else none
        | _ => none) else none
      | .old _ => none)
    | .sl (some a) len (.exact c) =>
      if k = 0 ∧ len ≤ c then some (.sl (some a) len (.exact c), H)
      else if len + k ≤ c then (match a.rf with
        | .own i => match H.write i (a.off + len * es) new with
          | some H' => some (.sl (some a) (len + k) (.exact c), H')
          | none => none
        | .old _ => none)
      else (match blkOf W H a.rf with
        | some cs => match cs.getN a.off (len * es) with
          | some old => appNew H t bytes es old new (len + k)
          | none => none
        | none => none)
    | .sl (some ⟨.own i, off⟩) len (.opn e) =>
      if e = es ∧ 0 < es then
        if k = 0 then some (.sl (some ⟨.own i, off⟩) len (.opn e), H)
        else match H.get i with
          | some (.cells c t' (some l)) =>
            if off + (len + k) * es ≤ c.size then (match H.write i (off + len * es) new with
              | some H' => some (.sl (some ⟨.own i, off⟩) (len + k) (.opn e), H')
              | none => none)
            else if off = 0 ∧ len * es = c.size ∧ t' = t then (match H.lines.get l with
              | some (floor, tip) => if tip = i then (match c.getN 0 (len * es) with
                | some old => if (len + k) * bytes ≤ 140737488355328 ∧ new.all oneC = true then
                    some (.sl (some ⟨.own H.next, 0⟩) (len + k) (.opn es),
                      { next := H.next + 1, objs := H.objs.set H.next (.cells (.lst (old ++ new)) t (some l)), lines := H.lines.set l (floor, H.next) })
                  else none
                | none => none) else none
              | none => none)
            else if 0 < off ∧ off + len * es = c.size ∧ t' = t then (match H.lines.get l with
              | some (_, tip) => (match c.getN off (len * es) with
                | some old => if (len + k) * bytes ≤ 140737488355328 ∧ new.all oneC = true then
                    some (.sl (some ⟨.own H.next, 0⟩) (len + k) (.opn es),
                      { next := H.next + 1, objs := H.objs.set H.next (.cells (.lst (old ++ new)) t (some H.next)), lines := (H.lines.set l (H.next + 1, tip)).set H.next (H.next, H.next) })
                  else none
                | none => none)
              | none => none)
            else none
          | _ => none
      else none
    | _ => none
def appA (W : World) (H : Heap) (t es bytes : Nat) (ofStr : Bool) (s x : AV) : Option (AV × Heap) :=
  match srcA W H es ofStr x with
  | none => none
  | some (k, new) => appN W H t es bytes s k new
/-- Bytes that are zero are appended. -/
def appZ (W : World) (H : Heap) (t bytes : Nat) (s n : AV) : Option (AV × Heap) :=
  match n with
  | .int .i64 m => if 0 ≤ m ∧ m ≤ 1099511627776 then appN W H t 1 bytes s m.toNat (List.replicate m.toNat (.int .u8 0)) else none
  | _ => none
def copyA (W : World) (H : Heap) (es : Nat) (dst src : AV) : Option (AV × Heap) :=
  match dst with
  | .sl a dl _ => match src with
    | .sl b sl _ =>
      let n := Nat.min sl dl
      match a with
      | some ⟨.own i, off⟩ => match b with
        | some b => match blkOf W H b.rf with
          | some c => match c.getN b.off (n * es) with
            | some l => match H.write i off l with
              | some H' => some (.int .i64 n, H')
              | none => none
            | none => none
          | none => none
        | none => if n = 0 then some (.int .i64 0, H) else none
      | none => if n = 0 then some (.int .i64 0, H) else none
      | _ => none
    | .emp => some (.int .i64 0, H)
    | .fin _ _ => some (.int .i64 0, H)
    | .str s => if es = 1 then
      let n := Nat.min s.length dl
      match a with
      | some ⟨.own i, off⟩ => match H.write i off ((s.take n).map fun b => .int .u8 b.toNat) with
        | some H' => some (.int .i64 n, H')
        | none => none
      | none => if n = 0 then some (.int .i64 0, H) else none
      | _ => none
      else none
    | _ => none
  | _ => none
/-- A deed that is no call. -/
def evD (W : World) (H : Heap) (A : Tm) : EK → Option (AV × Heap)
  | .store n x v => match storeA H n (evX A x) (evX A v) with
    | some H' => some (.tup [], H')
    | none => none
  | .mupd ks m k v => match mupdA H ks (evX A m) (evX A k) (evX A v) with
    | some H' => some (.tup [], H')
    | none => none
  | .app t es b ofStr s x => appA W H t es b ofStr (evX A s) (evX A x)
  | .appz t b s n => appZ W H t b (evX A s) (evX A n)
  | .copy es d s => copyA W H es (evX A d) (evX A s)
  | .del ks m k => match delA H ks (evX A m) (evX A k) with
    | some H' => some (.tup [], H')
    | none => none
  | .callf _ _ => none
  | .callv _ _ => none
end Go.Proofs.YtjfnhdiimibmiaaDoor.Sx

/- How the second reading stands to the model: values, memory. -/
namespace Go.Proofs.YtjfnhdiimibmiaaDoor.Sx

/-- Where the call's own blocks lie in the model's memory, and how great those are. -/
structure Emb where
  blk : Nat → Option Nat
  siz : Nat → Nat
  sh : Nat → Nat

def Emb.le (μ μ' : Emb) : Prop := ∀ i r, μ.blk i = some r → μ'.blk i = some r ∧ μ'.siz i = μ.siz i ∧ μ'.sh i = μ.sh i
theorem Emb.le_refl (μ : Emb) : μ.le μ := fun _ _ h => ⟨h, rfl, rfl⟩
theorem Emb.le_trans {a b c : Emb} (h : a.le b) (k : b.le c) : a.le c := fun i r hi =>
  ⟨(k i r (h i r hi).1).1, (k i r (h i r hi).1).2.1.trans (h i r hi).2.1, (k i r (h i r hi).1).2.2.trans (h i r hi).2.2⟩

def RR (μ : Emb) : Rf → Nat → Prop
  | .own i, r => μ.blk i = some r
  | .old b, r => r = b
/-- How far behind the begin of the model's block it begins. -/
def shR (μ : Emb) : Rf → Nat
  | .own i => μ.sh i
  | .old _ => 0
structure AR (μ : Emb) (a : Ad) (a' : Addr) : Prop where
  rf : RR μ a.rf a'.block
  off : a'.off = a.off + shR μ a.rf
  spot : a'.spot = none
def CapR (μ : Emb) (a : Ad) (len : Nat) : Cap → Nat → Prop
  | .exact c, c' => c' = c
  | .opn es, c' => ∃ i, a.rf = .own i ∧ a.off + c' * es = μ.siz i ∧ len ≤ c'

mutual
inductive VR (μ : Emb) : AV → Value → Prop
  | unk (v : Value) : VR μ .unk v
  | bool (b : Bool) : VR μ (.bool b) (.bool b)
  | int (k : IntKind) (n : Int) : VR μ (.int k n) (.int k n)
  | str (s : ByteArray) : VR μ (.str s.data.toList) (.string s)
  | ptrN : VR μ (.ptr none) (.pointer none)
  | ptr {a : Ad} {a' : Addr} (h : AR μ a a') : VR μ (.ptr (some a)) (.pointer (some a'))
  | slN (l c : Nat) : VR μ (.sl none l (.exact c)) (.slice none l c)
  | sl {a : Ad} {a' : Addr} {l : Nat} {cap : Cap} {c' : Nat} (h : AR μ a a') (hc : CapR μ a l cap c') : VR μ (.sl (some a) l cap) (.slice (some a') l c')
  | emp (a' : Addr) (c' : Nat) : VR μ .emp (.slice (some a') 0 c')
  | fin {a : Ad} {es : Nat} (a' : Addr) (c' : Nat) (h : c' = 0 ∨ (AR μ a a' ∧ CapR μ a 0 (.opn es) c')) : VR μ (.fin a es) (.slice (some a') 0 c')
  | mapN : VR μ (.map none) (.map none)
  | map {r : Rf} {r' : Nat} (h : RR μ r r') : VR μ (.map (some r)) (.map (some r'))
  | fn (f : FuncId) {fs cs : List AV} {fs' cs' : Array Value} (h1 : VRL μ fs fs'.toList) (h2 : VRL μ cs cs'.toList) : VR μ (.fn f fs cs) (.func (.func f) fs' cs')
  | yld {l r : Nat} (h : μ.blk l = some r) : VR μ (.yld l) (.func (.yield r) #[] #[])
  | nfn : VR μ .nfn .nilFunc
  | ifc (t : TypeId) {v : AV} {v' : Value} (h : VR μ v v') : VR μ (.ifc t v) (.iface t v')
  | nif : VR μ .nif .nilIface
  | agg {cs : List AV} {cs' : Array Value} (h : VRL μ cs cs'.toList) : VR μ (.agg cs) (.agg cs')
  | tup {cs : List AV} {cs' : Array Value} (h : VRL μ cs cs'.toList) : VR μ (.tup cs) (.tuple cs')
inductive VRL (μ : Emb) : List AV → List Value → Prop
  | nil : VRL μ [] []
  | cons {v : AV} {v' : Value} {l : List AV} {l' : List Value} (h : VR μ v v') (hl : VRL μ l l') : VRL μ (v :: l) (v' :: l')
end

theorem RR.le {μ μ' : Emb} (h : μ.le μ') {r : Rf} {b : Nat} (hr : RR μ r b) : RR μ' r b := by
  cases r with
  | own i => exact (h i b hr).1
  | old b' => exact hr
theorem shR.le {μ μ' : Emb} (h : μ.le μ') {r : Rf} {b : Nat} (hr : RR μ r b) : shR μ' r = shR μ r := by
  cases r with
  | own i => exact (h i b hr).2.2
  | old b' => rfl
theorem AR.le {μ μ' : Emb} (h : μ.le μ') {a : Ad} {a' : Addr} (hr : AR μ a a') : AR μ' a a' := ⟨hr.rf.le h, by rw [shR.le h hr.rf]; exact hr.off, hr.spot⟩
theorem CapR.le {μ μ' : Emb} (h : μ.le μ') {a : Ad} {a' : Addr} (hr : AR μ a a') {l : Nat} {cap : Cap} {c' : Nat} (hc : CapR μ a l cap c') : CapR μ' a l cap c' := by
  cases cap with
  | exact c => exact hc
  | opn es =>
    obtain ⟨i, h1, h2, h3⟩ := hc
    have := hr.rf
    rw [h1] at this
    exact ⟨i, h1, by rw [(h i _ this).2.1]; exact h2, h3⟩
mutual
theorem VR.le {μ μ' : Emb} (h : μ.le μ') {v : AV} {v' : Value} : VR μ v v' → VR μ' v v'
  | .unk v => .unk v
  | .bool b => .bool b
  | .int k n => .int k n
  | .str s => .str s
  | .ptrN => .ptrN
  | .ptr ha => .ptr (ha.le h)
  | .slN l c => .slN l c
  | .sl ha hc => .sl (ha.le h) (hc.le h ha)
  | .emp a c => .emp a c
  | .fin a c hf => .fin a c (hf.imp id fun q => ⟨q.1.le h, q.2.le h q.1⟩)
  | .mapN => .mapN
  | .map hr => .map (hr.le h)
  | .fn f h1 h2 => .fn f (VRL.le h h1) (VRL.le h h2)
  | .yld hl => .yld (h _ _ hl).1
  | .nfn => .nfn
  | .ifc t hv => .ifc t (VR.le h hv)
  | .nif => .nif
  | .agg hl => .agg (VRL.le h hl)
  | .tup hl => .tup (VRL.le h hl)
theorem VRL.le {μ μ' : Emb} (h : μ.le μ') {l : List AV} {l' : List Value} : VRL μ l l' → VRL μ' l l'
  | .nil => .nil
  | .cons hv hl => .cons (VR.le h hv) (VRL.le h hl)
end

theorem VRL.length {μ : Emb} {l : List AV} {l' : List Value} (h : VRL μ l l') : l'.length = l.length := by
  induction l generalizing l' with
  | nil => cases h; rfl
  | cons v l ih => cases h with | cons hv hl => simp [ih hl]
theorem VRL.get {μ : Emb} {l : List AV} {l' : List Value} (h : VRL μ l l') {i : Nat} {v : AV} (hi : l[i]? = some v) : ∃ v', l'[i]? = some v' ∧ VR μ v v' := by
  induction l generalizing l' i with
  | nil => simp at hi
  | cons x l ih =>
    cases h with
    | cons hv hl =>
      cases i with
      | zero => simp at hi; subst hi; exact ⟨_, by simp, hv⟩
      | succ i => simp at hi; simpa using ih hl hi
theorem VRL.of_get {μ : Emb} {l : List AV} {l' : List Value} (hl : l'.length = l.length) (h : ∀ (i : Nat) (v : AV) (v' : Value), l[i]? = some v → l'[i]? = some v' → VR μ v v') : VRL μ l l' := by
  induction l generalizing l' with
  | nil => cases l' with | nil => exact .nil | cons => simp at hl
  | cons x l ih =>
    cases l' with
    | nil => simp at hl
    | cons x' l' => exact .cons (h 0 x x' rfl rfl) (ih (by simpa using hl) fun i v v' h1 h2 => h (i + 1) v v' (by simpa using h1) (by simpa using h2))
theorem VRL.append {μ : Emb} {a b : List AV} {a' b' : List Value} (h : VRL μ a a') (k : VRL μ b b') : VRL μ (a ++ b) (a' ++ b') := by
  induction a generalizing a' with
  | nil => cases h; exact k
  | cons x a ih => cases h with | cons hv hl => exact .cons hv (ih hl)
theorem VRL.take {μ : Emb} {l : List AV} {l' : List Value} (h : VRL μ l l') (n : Nat) : VRL μ (l.take n) (l'.take n) := by
  induction l generalizing l' n with
  | nil => cases h; simp; exact .nil
  | cons x a ih => cases h with | cons hv hl => cases n with | zero => exact .nil | succ n => exact .cons hv (ih hl n)
theorem VRL.drop {μ : Emb} {l : List AV} {l' : List Value} (h : VRL μ l l') (n : Nat) : VRL μ (l.drop n) (l'.drop n) := by
  induction l generalizing l' n with
  | nil => cases h; simp; exact .nil
  | cons x a ih => cases h with | cons hv hl => cases n with | zero => exact .cons hv hl | succ n => exact ih hl n
theorem VRL.map {μ : Emb} {α : Type} {f : α → AV} {g : α → Value} (l : List α) (h : ∀ x ∈ l, VR μ (f x) (g x)) : VRL μ (l.map f) (l.map g) := by
  induction l with
  | nil => exact .nil
  | cons x l ih => exact .cons (h x (by simp)) (ih fun y hy => h y (by simp [hy]))
theorem VRL.replicate {μ : Emb} {v : AV} {v' : Value} (h : VR μ v v') (n : Nat) : VRL μ (List.replicate n v) (List.replicate n v') := by
  induction n with
  | zero => exact .nil
  | succ n ih => exact .cons h ih
theorem VRL.flatten_replicate {μ : Emb} {l : List AV} {l' : List Value} (h : VRL μ l l') (n : Nat) : VRL μ (List.replicate n l).flatten (List.replicate n l').flatten := by
  induction n with
  | zero => exact .nil
  | succ n ih => simp only [List.replicate_succ, List.flatten_cons]; exact h.append ih

theorem VR.cells {μ : Emb} {v : AV} {v' : Value} (h : VR μ v v') (hu : noUnk v = true) : VRL μ v.cells v'.cells.toList := by
  cases h with
  | unk v => simp [noUnk] at hu
  | agg hl => exact hl
  | bool b => exact .cons (.bool b) .nil
  | int k n => exact .cons (.int k n) .nil
  | str s => exact .cons (.str s) .nil
  | ptrN => exact .cons .ptrN .nil
  | ptr h => exact .cons (.ptr h) .nil
  | slN l c => exact .cons (.slN l c) .nil
  | sl h hc => exact .cons (.sl h hc) .nil
  | emp a c => exact .cons (.emp a c) .nil
  | fin a c hf => exact .cons (.fin a c hf) .nil
  | mapN => exact .cons .mapN .nil
  | map h => exact .cons (.map h) .nil
  | fn f h1 h2 => exact .cons (.fn f h1 h2) .nil
  | yld h => exact .cons (.yld h) .nil
  | nfn => exact .cons .nfn .nil
  | ifc t h => exact .cons (.ifc t h) .nil
  | nif => exact .cons .nif .nil
  | tup h => exact .cons (.tup h) .nil

theorem enc_VR (μ : Emb) (v : Value) : VR μ (enc v) v := by
  unfold enc
  split
  · exact .bool _
  · exact .int _ _
  · exact .str _
  · exact .ptrN
  · exact .ptr ⟨rfl, rfl, rfl⟩
  · exact .slN _ _
  · exact .emp _ _
  · exact .sl ⟨rfl, rfl, rfl⟩ rfl
  · exact .mapN
  · exact .map rfl
  · exact .nfn
  · exact .nif
  · exact .unk _
end Go.Proofs.YtjfnhdiimibmiaaDoor.Sx

/- The program's code, compiled for the second reading. -/
namespace Go.Proofs.YtjfnhdiimibmiaaDoor.Sx

/-- A constant. -/
def constAV : Nat → Value → Option AV
  | 0, _ => none
  | n + 1, v => match v with
    | .bool b => some (.bool b)
    | .int k n => some (.int k n)
    | .string s => some (.str s.data.toList)
    | .pointer none => some (.ptr none)
    | .slice none l c => some (.sl none l (.exact c))
    | .map none => some (.map none)
    | .nilFunc => some .nfn
    | .nilIface => some .nif
    | .iface t v => (constAV n v).map (.ifc t)
    | .agg cs => (cs.toList.mapM (constAV n)).map .agg
    | .tuple cs => (cs.toList.mapM (constAV n)).map .tup
    | _ => none

theorem mapM_some {α β : Type} {f : α → Option β} : ∀ {l : List α} {l' : List β}, l.mapM f = some l' → l'.length = l.length ∧ ∀ (i : Nat) (x : α), l[i]? = some x → ∃ y, l'[i]? = some y ∧ f x = some y := by
  intro l
  induction l with
  | nil => intro l' h; simp at h; subst h; simp
  | cons x l ih =>
    intro l' h
    rw [List.mapM_cons] at h
    cases hx : f x with
    | none => simp [hx] at h
    | some y =>
      cases hl : l.mapM f with
      | none => simp [hx, hl] at h
      | some ys =>
        simp [hx, hl] at h
        subst h
        obtain ⟨h1, h2⟩ := ih hl
        refine ⟨by simp [h1], fun i z hz => ?_⟩
        cases i with
        | zero => simp at hz; subst hz; exact ⟨y, by simp, hx⟩
        | succ i => simp at hz; simpa using h2 i z hz

theorem constAV_VR (μ : Emb) : ∀ (n : Nat) (v : Value) (x : AV), constAV n v = some x → VR μ x v := by
  intro n
  induction n with
  | zero => intro v x h; simp [constAV] at h
  | succ n ih =>
    have key : ∀ (cs : Array Value) (xs : List AV), cs.toList.mapM (constAV n) = some xs → VRL μ xs cs.toList := by
      intro cs xs h
      obtain ⟨h1, h2⟩ := mapM_some h
      refine VRL.of_get h1.symm fun i y v hy hv => ?_
      obtain ⟨y', hy', hc⟩ := h2 i v hv
      rw [hy] at hy'
      cases hy'
      exact ih _ _ hc
    intro v x h
    unfold constAV at h
    split at h
    · cases h; exact .bool _
    · cases h; exact .int _ _
    · cases h; exact .str _
    · cases h; exact .ptrN
    · cases h; exact .slN _ _
    · cases h; exact .mapN
    · cases h; exact .nfn
    · cases h; exact .nif
    · rename_i t v
      cases hc : constAV n v with
      | none => simp [hc] at h
      | some y => simp [hc] at h; subst h; exact .ifc _ (ih _ _ hc)
    · rename_i cs
      cases hc : cs.toList.mapM (constAV n) with
      | none => simp [hc] at h
      | some ys => simp [hc] at h; subst h; exact .agg (key _ _ hc)
    · rename_i cs
      cases hc : cs.toList.mapM (constAV n) with
      | none => simp [hc] at h
      | some ys => simp [hc] at h; subst h; exact .tup (key _ _ hc)
    · cases h

def compX : Operand → Option SX
  | .tmp t => some (.tmp t)
  | .const v => (constAV 8 v).map .c
  | .global g => some (.g g)
  | .func f => some (.fn f)
def compXs (l : Array Operand) : Option (List SX) := l.toList.mapM compX
def compXo : Option Operand → Option (Option SX)
  | none => some none
  | some x => (compX x).map some

section
variable (P : Program)
def sizeT (t : TypeId) : Option Nat := (P.info? t).map (·.size)
def bytesT (t : TypeId) : Option Nat := (P.info? t).map (·.bytes)
def zeroV (t : TypeId) : Option AV := match P.info? t with
  | some i => match i.zero with
    | some z => constAV 8 z
    | none => none
  | none => none
def zeroL (t : TypeId) : Option (List AV) := (zeroV P t).map AV.cells
/-- Is it a struct or an array, and how many cells has it? -/
def aggN (t : TypeId) : Option (Option Nat) := match P.underlying t with
  | some (.struct _) | some (.array _ _) => (sizeT P t).map some
  | some _ => some none
  | none => none
/-- The kinds of the cells of a struct's fields, one behind the other. -/
def leavesFs (lv : TypeId → Option (List LK)) : List Field → List LK → Option (List LK)
  | [], acc => some acc
  | f :: fs, acc => match lv f.type with
    | some l => if f.name ≠ "_" ∧ f.offset = acc.length ∧ sizeT P f.type = some l.length then leavesFs lv fs (acc ++ l) else none
    | none => none
/-- The kinds of a type's cells, where its values are compared cell by cell: whole numbers, texts, bools. -/
def leavesT : Nat → TypeId → Option (List LK)
  | 0, _ => none
  | n + 1, t => match P.underlying t with
    | some (.int _) => if sizeT P t = some 1 then some [.i] else none
    | some .string => if sizeT P t = some 1 then some [.s] else none
    | some .bool => if sizeT P t = some 1 then some [.b] else none
    | some (.struct fs) => if P.stoodInHeld t then none else match leavesFs P (leavesT n) fs.toList [] with
      | some l => if sizeT P t = some l.length then some l else none
      | none => none
    | some (.array len e) => match leavesT n e with
      | some l => if sizeT P e = some l.length ∧ sizeT P t = some (len * l.length) then some (List.replicate len l).flatten else none
      | none => none
    | _ => none
def keyT (t : TypeId) : Option KS := match leavesT P 9 t, aggN P t with
  | some [k], some none => some (.leaf k)
  | some ls, some (some _) => some (.agg ls)
  | _, _ => none
def placesOf (t : TypeId) : Option (Nat → Option (Nat × Nat)) := match P.underlying t with
  | some (.struct fs) => match fs.toList.mapM fun f => (sizeT P f.type).map fun s => (f.offset, s) with
    | some l => some (l[·]?)
    | none => none
  | some (.array _ e) => match sizeT P e with
    | some s => some fun i => some (i * s, s)
    | none => none
  | _ => none
def compParts (place : Nat → Option (Nat × Nat)) (ps : Array (Nat × Operand)) : Option (List (Nat × Nat × SX)) :=
  ps.toList.mapM fun (i, x) => match place i, compX x with
    | some (o, s), some x => some (o, s, x)
    | _, _ => none
def eqKind (t : TypeId) (x y : Operand) : Option EqK := match P.underlying t with
  | some .bool => some .bool
  | some (.pointer _) => some .ptr
  | some (.slice _) => some .sl
  | some (.map _ _) => some .map
  | some (.func _ _ _) => some .fn
  | some (.interface _) => if Region.isConst x || Region.isConst y then some .ifc else none
  | some (.struct _) => if P.eqGuardType P.depth t then none else (leavesT P 9 t).map .agg
  | some (.array _ _) => if P.eqGuardType P.depth t then none else (leavesT P 9 t).map .agg
  | _ => none
end


section
variable (P : Program)
/-- The zero value of a byte. -/
def isZ8 : List AV → Bool
  | [.int .u8 0] => true
  | _ => false
theorem isZ8_eq {z : List AV} (h : isZ8 z = true) : z = [.int .u8 0] := by
  unfold isZ8 at h
  split at h
  · rfl
  · cases h
/-- An operation of the program, compiled. -/
def compK (o : Oper) : Option SK :=
  match o.op with
  | .move x | .assign x => (compX x).map fun x => .p (.move x)
  | .pick c a b => match compX c, compX a, compX b with
    | some c, some a, some b => some (.p (.pick c a b))
    | _, _, _ => none
  | .alloc t => match zeroV P t with
    | some z => some (.a (.box t (.c z)))
    | none => none
  | .box t x => (compX x).map fun x => .a (.box t x)
  | .build t ps => match zeroL P t, placesOf P t with
    | some z, some pl => match compParts pl ps with
      | some l => if (sizeT P t) == some z.length then some (.p (.build z l)) else none
      | none => none
    | _, _ => none
  | .buildSlice t n ps => match P.underlying t with
    | some (.slice e) => match zeroL P e, sizeT P e with
      | some z, some s => match compParts (fun i => some (i * s, s)) ps with
        | some l => if 0 < s then some (.a (.bsl e n s z l)) else none
        | none => none
      | _, _ => none
    | _ => none
  | .load t x => match aggN P t, compX x with
    | some n, some x => some (.r (.load n x))
    | _, _ => none
  | .store t x v => match sizeT P t, compX x, compX v with
    | some n, some x, some v => some (.e (.store n x v))
    | _, _, _ => none
  | .nilCheck x => (compX x).map fun x => .p (.nilc x)
  | .binOp op t x y _ => match compX x, compX y with
    | some x', some y' => match P.underlying t with
      | some (.int _) | some .string => some (.p (.bin op x' y'))
      | _ => match op, eqKind P t x y with
        | .eql, some kd => some (.p (.eq false kd x' y'))
        | .neq, some kd => some (.p (.eq true kd x' y'))
        | _, _ => none
    | _, _ => none
  | .unOp op _ x => (compX x).map fun x => .p (.un op x)
  | .convert src dst x => match P.underlying src, P.underlying dst, compX x with
    | some (.int _), some (.int k), some x => some (.p (.conv k x))
    | some .string, some .string, some x => some (.p (.conS x))
    | some .string, some (.slice e), some x => if P.underlying e matches some (.int .u8) then some (.a (.s2b e x)) else none
    | some (.slice e), some .string, some x => if P.underlying e matches some (.int .u8) then some (.r (.b2s x)) else none
    | _, _, _ => none
  | .makeInterface t x => match P.underlying t, compX x with
    | some (.interface _), _ => none
    | some _, some x => some (.p (.iface t x))
    | _, _ => none
  | .makeFunc (.func f) first captured => match compXs first, compXs captured with
    | some a, some b => some (.p (.mkfn f a b))
    | _, _ => none
  | .makeMap _ none => some (.a .mkmap)
  | .makeSlice t l c => match P.underlying t with
    | some (.slice e) => match zeroL P e, sizeT P e, bytesT P e, compX l, compX c with
      | some z, some s, some b, some l, some c => some (.a (.mksl e s b z l c))
      | _, _, _, _, _ => none
    | _ => none
  | .slice t x lo hi mx => match compX x, compXo lo, compXo hi, compXo mx with
    | some x, some lo, some hi, some mx => match P.underlying t with
      | some .string => if mx.isNone then some (.p (.slS x lo hi)) else none
      | some (.slice e) => (sizeT P e).map fun s => .p (.sl s x lo hi mx)
      | some (.array n e) => (sizeT P e).map fun s => .p (.slA n s x lo hi mx)
      | some (.pointer arr) => match P.underlying arr with
        | some (.array n e) => (sizeT P e).map fun s => .p (.slA n s x lo hi mx)
        | _ => none
      | _ => none
    | _, _, _, _ => none
  | .fieldAddr t x f => match P.underlying t, compX x with
    | some (.struct fs), some x => match fs[f]? with
      | some fd => match sizeT P fd.type with
        | some (_ + 1) => some (.p (.faddr fd.offset x))
        | _ => none
      | none => none
    | _, _ => none
  | .field t x f => match P.underlying t, compX x with
    | some (.struct fs), some x => match fs[f]? with
      | some fd => (aggN P fd.type).map fun n => .p (.field fd.offset n x)
      | none => none
    | _, _ => none
  | .indexAddr t x i => match P.underlying t, compX x, compX i with
    | some (.slice e), some x, some i => (sizeT P e).map fun s => .p (.iaddr s x i)
    | some (.array n e), some x, some i => (sizeT P e).map fun s => .p (.iaddrA n s x i)
    | _, _, _ => none
  | .index t x i => match P.underlying t, compX x, compX i with
    | some (.array n e), some x, some i => match aggN P e, sizeT P e with
      | some a, some s => some (.p (.indexA n s a.isSome x i))
      | _, _ => none
    | some .string, some x, some i => some (.p (.indexS x i))
    | _, _, _ => none
  | .lookup t m k ok => match P.underlying t, compX m, compX k with
    | some (.map kt e), some m, some k => match zeroV P e, keyT P kt with
      | some z, some ks => some (.r (.look ok ks z m k))
      | _, _ => none
    | _, _, _ => none
  | .mapUpdate t m k v => match P.underlying t, compX m, compX k, compX v with
    | some (.map kt _), some m, some k, some v => (keyT P kt).map fun ks => .e (.mupd ks m k v)
    | _, _, _, _ => none
  | .extract x i => (compX x).map fun x => .p (.ext x i)
  | .call c => match c.callee with
    | .value (.func f) => (compXs c.args).map fun a => .e (.callf f a)
    | .value x => match compX x, compXs c.args with
      | some x, some a => some (.e (.callv x a))
      | _, _ => none
    | .builtin .len => match c.argTypes[0]?, compXs c.args with
      | some t, some [x] => match P.underlying t with
        | some .string => some (.p (.lenS x))
        | some (.slice _) => some (.p (.len x))
        | some (.array n _) => some (.p (.lenK n))
        | some (.pointer arr) => match P.underlying arr with
          | some (.array n _) => some (.p (.lenK n))
          | _ => none
        | some (.map _ _) => some (.r (.lenM x))
        | _ => none
      | _, _ => none
    | .builtin .cap => match c.argTypes[0]?, compXs c.args with
      | some t, some [x] => match P.underlying t with
        | some (.slice _) => some (.p (.cap x))
        | _ => none
      | _, _ => none
    | .builtin .min => match compXs c.args with
      | some (x :: r) => some (.p (.mm false x r))
      | _ => none
    | .builtin .max => match compXs c.args with
      | some (x :: r) => some (.p (.mm true x r))
      | _ => none
    | .builtin .append => match c.argTypes[0]?, c.argTypes[1]?, compXs c.args with
      | some t, some u, some [s, x] => match P.underlying t with
        | some (.slice e) => match sizeT P e, bytesT P e, zeroL P e with
          | some es, some b, some z => match P.underlying u with
            | some (.slice _) => if z.length = es ∧ 0 < b then some (.e (.app e es b false s x)) else none
            | some .string => if es = 1 ∧ z.length = 1 ∧ 0 < b then some (.e (.app e es b true s x)) else none
            | some (.int _) => if es = 1 ∧ 0 < b ∧ b ≤ 128 ∧ isZ8 z = true then some (.e (.appz e b s x)) else none
            | _ => none
          | _, _, _ => none
        | _ => none
      | _, _, _ => none
    | .builtin .copy => match c.argTypes[0]?, compXs c.args with
      | some t, some [d, s] => match P.underlying t with
        | some (.slice e) => (sizeT P e).map fun es => .e (.copy es d s)
        | _ => none
      | _, _ => none
    | .builtin .delete => match c.argTypes[0]?, compXs c.args with
      | some t, some [m, k] => match P.underlying t with
        | some (.map kt _) => (keyT P kt).map fun ks => .e (.del ks m k)
        | _ => none
      | _, _ => none
    | _ => none
  | .sliceToArrayPointer t x => match P.underlying t, compX x with
    | some (.array n _), some x => some (.p (.toArr n x))
    | _, _ => none
  | .typeAssert x _ t ok => match P.underlying t, zeroV P t, compX x with
    | some (.interface _), _, _ => none
    | some _, some z, some x => some (.p (.assertT t ok z x))
    | _, _, _ => none
  | _ => none

/-- A guard: on the slot that the operation it names writes. -/
def compOp (nt : Nat) (ops : Array Oper) (o : Oper) : Option SOp :=
  match compK P o with
  | none => none
  | some k =>
    match o.dst, o.guard with
    | some d, none => if d < nt then some ⟨some d, none, k⟩ else none
    | none, none => some ⟨none, none, k⟩
    | d, some (j, want) => match (ops[j]?).bind (·.dst) with
      | some g => if g < nt then (match d with
        | some d => if d < nt then some ⟨some d, some (g, want), k⟩ else none
        | none => some ⟨none, some (g, want), k⟩) else none
      | none => none
end
end Go.Proofs.YtjfnhdiimibmiaaDoor.Sx

/- Operations that look at nothing but their operands: what the second reading answers is what the model's run answers. -/
namespace Go.Proofs.YtjfnhdiimibmiaaDoor.Sx
variable {P : Program} {μ : Emb} {w : World}

/-- Slots. -/
def TmR (μ : Emb) (A : Tm) (tm : Array Value) : Prop := ∀ t v, A.get t = some v → ∃ v', tm[t]? = some v' ∧ VR μ v v'

theorem TmR.le {μ' : Emb} (h : μ.le μ') {A : Tm} {tm : Array Value} (hA : TmR μ A tm) : TmR μ' A tm := fun t v ht =>
  let ⟨v', h1, h2⟩ := hA t v ht; ⟨v', h1, h2.le h⟩
theorem TmR.put {A : Tm} {a : Act} (hA : TmR μ A a.tmps) {d : Option Nat} (hd : ∀ x, d = some x → x < a.tmps.size) {v : AV} {v' : Value} (hv : VR μ v v') : TmR μ (putT A d v) (a.put d v').tmps := by
  cases d with
  | none => exact hA
  | some d =>
    have hd := hd d rfl
    intro t u ht
    simp only [putT, Tr.get_set] at ht
    simp only [Act.put]
    by_cases e : t = d
    · subst e
      simp at ht; subst ht
      exact ⟨v', by simp [hd], hv⟩
    · rw [if_neg e] at ht
      obtain ⟨u', h1, h2⟩ := hA t u ht
      exact ⟨u', by rw [Array.getElem?_setIfInBounds, if_neg (fun h => e h.symm)]; exact h1, h2⟩

theorem evX_VR {A : Tm} {a : Act} (hA : TmR μ A a.tmps) {x : Operand} {sx : SX} (h : compX x = some sx) : VR μ (evX A sx) (a.eval x) := by
  cases x with
  | tmp t =>
    simp only [compX, Option.some.injEq] at h
    subst h
    simp only [evX, getX, Act.eval]
    cases ht : A.get t with
    | none => exact .unk _
    | some v =>
      obtain ⟨v', h1, h2⟩ := hA t v ht
      have : a.tmps.getD t undef = v' := by simp [Array.getD_eq_getD_getElem?, h1]
      rw [this]; exact h2
  | const v =>
    cases hc : constAV 8 v with
    | none => simp [compX, hc] at h
    | some y =>
      simp [compX, hc] at h
      subst h
      exact constAV_VR μ _ _ _ hc
  | global g =>
    simp only [compX, Option.some.injEq] at h
    subst h
    exact .ptr ⟨rfl, rfl, rfl⟩
  | func f =>
    simp only [compX, Option.some.injEq] at h
    subst h
    exact .fn f .nil .nil

theorem evXs_VR {A : Tm} {a : Act} (hA : TmR μ A a.tmps) {xs : Array Operand} {l : List SX} (h : compXs xs = some l) : VRL μ (l.map (evX A)) (xs.map a.eval).toList := by
  obtain ⟨h1, h2⟩ := mapM_some h
  refine VRL.of_get (by simp; simpa using h1.symm) fun i v v' hv hv' => ?_
  simp only [List.getElem?_map, Option.map_eq_some_iff] at hv
  obtain ⟨y, hy, rfl⟩ := hv
  simp only [Array.toList_map, List.getElem?_map, Option.map_eq_some_iff] at hv'
  obtain ⟨z, hz, rfl⟩ := hv'
  obtain ⟨y', hy', hc⟩ := h2 i z hz
  rw [hy] at hy'
  cases hy'
  exact evX_VR hA hc

/-! ### Types -/
theorem run_sizeT {t s : Nat} (h : sizeT P t = some s) : (sizeOf t).run P w = .ok s w := by
  unfold sizeT at h
  cases hi : P.info? t with
  | none => simp [hi] at h
  | some i => simp [hi] at h; subst h; simp [sizeOf, typeInfo, hi]
theorem run_bytesT {t s : Nat} (h : bytesT P t = some s) : ∃ i, (typeInfo t).run P w = .ok i w ∧ i.bytes = s ∧ P.info? t = some i := by
  unfold bytesT at h
  cases hi : P.info? t with
  | none => simp [hi] at h
  | some i => simp [hi] at h; exact ⟨i, by simp [typeInfo, hi], h, rfl⟩
theorem run_zeroV {t : Nat} {z : AV} (h : zeroV P t = some z) : ∃ z', (∀ w, (zeroValue t).run P w = .ok z' w) ∧ constAV 8 z' = some z ∧ ∃ i, P.info? t = some i ∧ i.zero = some z' := by
  unfold zeroV at h
  cases hi : P.info? t with
  | none => simp [hi] at h
  | some i =>
    cases hz : i.zero with
    | none => simp [hi, hz] at h
    | some z' => simp [hi, hz] at h; exact ⟨z', fun w => by simp [zeroValue, typeInfo, hi, hz], h, i, rfl, hz⟩
theorem run_aggN {t : Nat} {n : Option Nat} (h : aggN P t = some n) : (isAgg t).run P w = .ok n.isSome w ∧ (∀ k, n = some k → (sizeOf t).run P w = .ok k w) := by
  unfold aggN at h
  split at h
  · rename_i hu
    cases hs : sizeT P t with
    | none => simp [hs] at h
    | some s =>
      simp [hs] at h; subst h
      exact ⟨by simp [isAgg, run_underlying hu], fun k hk => by cases hk; exact run_sizeT hs⟩
  · rename_i hu
    cases hs : sizeT P t with
    | none => simp [hs] at h
    | some s =>
      simp [hs] at h; subst h
      exact ⟨by simp [isAgg, run_underlying hu], fun k hk => by cases hk; exact run_sizeT hs⟩
  · rename_i d hne1 hne2 hu
    cases h
    refine ⟨?_, fun k hk => by cases hk⟩
    cases d <;> first | (simp [isAgg, run_underlying hu]; done) | (exact absurd rfl (hne1 _)) | (exact absurd rfl (hne2 _ _))
  · cases h

/-! ### Struct and array values -/
theorem foldl_put (off : Nat) : ∀ (l : List Value) (k : Nat) (cs : Array Value), off + k + l.length ≤ cs.size →
    ((l.zipIdx k).foldl (fun cs (c, j) => cs.setIfInBounds (off + j) c) cs).toList = cs.toList.take (off + k) ++ l ++ cs.toList.drop (off + k + l.length) := by
  intro l
  induction l with
  | nil => intro k cs h; simp
  | cons v l ih =>
    intro k cs h
    simp only [List.length_cons] at h
    simp only [List.zipIdx_cons, List.foldl_cons]
    rw [ih (k + 1) _ (by simp; omega)]
    have hk : off + k < cs.toList.length := by simp; omega
    simp only [Array.toList_setIfInBounds, List.length_cons]
    rw [show off + (k + 1) = off + k + 1 from by omega, List.take_add_one]
    rw [List.take_set_of_le (by omega), List.getElem?_set_self hk, List.drop_set_of_lt (by omega)]
    simp [Nat.add_assoc, Nat.add_comm 1]

theorem fill_VRL (place : Nat → Option (Nat × Nat)) : ∀ (ps : List (Nat × Value)) (ss : List (Nat × Nat × AV)) (cs : Array Value) (xs ys : List AV), VRL μ xs cs.toList → fill xs ss = some ys →
    ss.length = ps.length → (∀ (i : Nat) s p, ss[i]? = some s → ps[i]? = some p → place p.1 = some (s.1, s.2.1) ∧ VR μ s.2.2 p.2) →
    ∃ cs', Instr.fill place cs ps = some cs' ∧ VRL μ ys cs'.toList := by
  intro ps
  induction ps with
  | nil =>
    intro ss cs xs ys hx hf hl _
    cases ss with
    | nil => simp [fill] at hf; subst hf; exact ⟨cs, rfl, hx⟩
    | cons => simp at hl
  | cons p ps ih =>
    intro ss cs xs ys hx hf hl hp
    cases ss with
    | nil => simp at hl
    | cons s ss =>
      obtain ⟨off, size, v⟩ := s
      obtain ⟨hpl, hv⟩ := hp 0 (off, size, v) p rfl rfl
      obtain ⟨i, pv⟩ := p
      have hne : noUnk v = true := by cases v <;> first | rfl | (simp [fill] at hf)
      have hf' : fill xs ((off, size, v) :: ss) = if v.cells.length = size then (if off + size ≤ xs.length then fill (xs.take off ++ v.cells ++ xs.drop (off + size)) ss else none) else none := by
        cases v <;> first | rfl | (simp [noUnk] at hne)
      rw [hf'] at hf
      by_cases h1 : v.cells.length = size
      · rw [if_pos h1] at hf
        by_cases h2 : off + size ≤ xs.length
        · rw [if_pos h2] at hf
          have hc := hv.cells hne
          have hcl := hc.length
          have hxl := hx.length
          have hsz : pv.cells.size = size := by rw [← Array.length_toList, hcl, h1]
          have hcs : xs.length = cs.size := by rw [← Array.length_toList, hxl]
          have hput := foldl_put off pv.cells.toList 0 cs (by simp [hsz]; omega)
          have harr : (pv.cells.zipIdx.foldl (fun cs (c, j) => cs.setIfInBounds (off + j) c) cs) = ((pv.cells.toList.zipIdx 0).foldl (fun cs (c, j) => cs.setIfInBounds (off + j) c) cs) := by
            rw [← Array.foldl_toList]; simp
          obtain ⟨cs', hc1, hc2⟩ := ih ss (pv.cells.zipIdx.foldl (fun cs (c, j) => cs.setIfInBounds (off + j) c) cs) _ ys (by
            rw [harr, hput]
            simp only [Nat.add_zero, Array.length_toList, hsz]
            exact ((hx.take off).append hc).append (hx.drop (off + size))) hf (by simpa using hl) (fun i s p hs hp' => hp (i + 1) s p (by simpa using hs) (by simpa using hp'))
          refine ⟨cs', ?_, hc2⟩
          simp only [Instr.fill, hpl]
          rw [if_neg (by simp [hsz]; omega)]
          exact hc1
        · rw [if_neg h2] at hf; cases hf
      · rw [if_neg h1] at hf; cases hf
end Go.Proofs.YtjfnhdiimibmiaaDoor.Sx

/- Operations that look at nothing but their operands, one by one. -/
namespace Go.Proofs.YtjfnhdiimibmiaaDoor.Sx
variable {P : Program} {μ : Emb} {w : World}

/-! ### bin -/
theorem i64max : IntKind.i64.max = 9223372036854775807 := by decide
theorem toList_eq (s : ByteArray) : s.toList = s.data.toList := by
  rw [ByteArray.toList]
  have key : ∀ (n i : Nat) (r : List UInt8), s.size - i = n → ByteArray.toList.loop s i r = r.reverse ++ s.data.toList.drop i := by
    intro n
    induction n with
    | zero =>
      intro i r h
      have hs : s.data.toList.length ≤ i := by simp; omega
      rw [ByteArray.toList.loop, if_neg (by omega), List.drop_eq_nil_of_le hs]; simp
    | succ n ih =>
      intro i r h
      have hi : i < s.size := by omega
      rw [ByteArray.toList.loop, if_pos hi, ih (i + 1) _ (by omega)]
      have hl : i < s.data.toList.length := by simpa using hi
      rw [List.drop_eq_getElem_cons hl]
      simp only [List.reverse_cons, List.append_assoc, List.singleton_append]
      congr 2
      show s.get! i = _
      simp [ByteArray.get!, getElem!_pos, hi]
  simpa using key s.size 0 [] rfl
theorem bytes_ext {a b : ByteArray} (h : a.data.toList = b.data.toList) : a = b := by
  cases a with | mk x => cases b with | mk y => cases x with | mk l => cases y with | mk m => simp at h; rw [h]

theorem run_bits {op : BinOp} {k : IntKind} {x y z : Int} (h : bits op k x y = some z) : (Op.intBits op k x y).run P w = .ok (.int k z) w := by
  cases op <;> simp only [bits] at h <;> first | (cases h; rfl) | (cases h; done)
theorem run_binI {op : BinOp} {k : IntKind} {x y : Int} {v : AV} (t : TypeId) (hs : op ≠ .shl) (hs' : op ≠ .shr) (h : binI op k x y = some v) : ∃ v', (binOp op t (.int k x) (.int k y)).run P w = .ok v' w ∧ VR μ v v' := by
  cases op <;> simp only [binI] at h <;> first | (exact absurd rfl hs) | (exact absurd rfl hs') | skip
  case add => cases h; exact ⟨_, by simp [binOp, Op.intArith], .int _ _⟩
  case sub => cases h; exact ⟨_, by simp [binOp, Op.intArith], .int _ _⟩
  case mul => cases h; exact ⟨_, by simp [binOp, Op.intArith], .int _ _⟩
  case quo =>
    by_cases hy : y = 0
    · simp [hy] at h
    · rw [if_neg hy] at h; cases h; exact ⟨_, by simp [binOp, Op.intDiv, hy], .int _ _⟩
  case rem =>
    by_cases hy : y = 0
    · simp [hy] at h
    · rw [if_neg hy] at h; cases h; exact ⟨_, by simp [binOp, Op.intDiv, hy], .int _ _⟩
  case eql => cases h; exact ⟨_, by simp [binOp, Op.intCmp], .bool _⟩
  case neq => cases h; exact ⟨_, by simp [binOp, Op.intCmp], .bool _⟩
  case lss => cases h; exact ⟨_, by simp [binOp, Op.intCmp], .bool _⟩
  case leq => cases h; exact ⟨_, by simp [binOp, Op.intCmp], .bool _⟩
  case gtr => cases h; exact ⟨_, by simp [binOp, Op.intCmp], .bool _⟩
  case geq => cases h; exact ⟨_, by simp [binOp, Op.intCmp], .bool _⟩
  case and =>
    cases hb : bits .and k x y with
    | none => simp [hb] at h
    | some z => simp [hb] at h; subst h; exact ⟨_, by simp only [binOp]; rw [if_neg (by simp)]; exact run_bits hb, .int _ _⟩
  case or =>
    cases hb : bits .or k x y with
    | none => simp [hb] at h
    | some z => simp [hb] at h; subst h; exact ⟨_, by simp only [binOp]; rw [if_neg (by simp)]; exact run_bits hb, .int _ _⟩
  case xor =>
    cases hb : bits .xor k x y with
    | none => simp [hb] at h
    | some z => simp [hb] at h; subst h; exact ⟨_, by simp only [binOp]; rw [if_neg (by simp)]; exact run_bits hb, .int _ _⟩
  case andNot =>
    cases hb : bits .andNot k x y with
    | none => simp [hb] at h
    | some z => simp [hb] at h; subst h; exact ⟨_, by simp only [binOp]; rw [if_neg (by simp)]; exact run_bits hb, .int _ _⟩
  all_goals (simp [bits] at h)

theorem run_shiftI {op : BinOp} {k k' : IntKind} {x y : Int} {v : AV} (t : TypeId) (hop : op = .shl ∨ op = .shr) (h : shiftI op k x y = some v) : ∃ v', (binOp op t (.int k x) (.int k' y)).run P w = .ok v' w ∧ VR μ v v' := by
  unfold shiftI at h
  by_cases hy : y < 0
  · rw [if_pos hy] at h; cases h
  · rw [if_neg hy] at h
    rcases hop with rfl | rfl
    · cases h; exact ⟨_, by simp only [binOp, Op.shift]; rw [if_neg hy]; rfl, .int _ _⟩
    · cases h; exact ⟨_, by simp only [binOp, Op.shift]; rw [if_neg hy]; rfl, .int _ _⟩

theorem run_binS {op : BinOp} {x y : ByteArray} {v : AV} (t : TypeId) (h : binS op x.data.toList y.data.toList = some v) : ∃ v', (binOp op t (.string x) (.string y)).run P w = .ok v' w ∧ VR μ v v' := by
  cases op <;> simp only [binS] at h <;> try (cases h; done)
  case add =>
    by_cases hl : x.data.toList.length + y.data.toList.length < 9223372036854775808
    · rw [if_pos hl] at h
      cases h
      refine ⟨.string (x ++ y), ?_, ?_⟩
      · simp only [binOp, Op.stringOp]
        have : ¬ (((x.size + y.size : Nat) : Int) > IntKind.i64.max) := by
          rw [i64max]; simp at hl; omega
        rw [if_neg this]; rfl
      · have : (x ++ y).data.toList = x.data.toList ++ y.data.toList := by simp
        rw [← this]; exact .str _
    · rw [if_neg hl] at h; cases h
  all_goals (cases h; exact ⟨_, by simp only [binOp, Op.stringOp, toList_eq]; rfl, .bool _⟩)

theorem eqGuard_none (op : BinOp) (t : TypeId) (x y : Operand) (u v : Value) (h : op ≠ .eql ∧ op ≠ .neq) : eqGuard op t x y u v = pure () := by
  cases op <;> first | rfl | (exact absurd rfl h.1) | (exact absurd rfl h.2)

theorem run_bin {op : BinOp} {t : TypeId} {x y : Operand} {u v : AV} {u' v' : Value} {r : AV} (hu : VR μ u u') (hv : VR μ v v') (h : bin op u v = some r) :
    ∃ r', (do eqGuard op t x y u' v'; binOp op t u' v' : Sem Value).run P w = .ok r' w ∧ VR μ r r' := by
  cases hu with
  | int k a =>
    cases hv with
    | int k' b =>
      have hg : eqGuard op t x y (.int k a) (.int k' b) = pure () := by cases op <;> rfl
      simp only [hg, Sem.run_bind, Sem.run_pure, Result.andThen_ok]
      simp only [bin] at h
      split at h
      · exact run_shiftI t (.inl rfl) h
      · exact run_shiftI t (.inr rfl) h
      · rename_i h1 h2
        by_cases hk : k = k'
        · subst hk; rw [if_pos rfl] at h; exact run_binI t (fun e => h1 e) (fun e => h2 e) h
        · rw [if_neg hk] at h; cases h
    | _ => simp [bin] at h
  | str a =>
    cases hv with
    | str b =>
      have hg : eqGuard op t x y (.string a) (.string b) = pure () := by cases op <;> rfl
      simp only [hg, Sem.run_bind, Sem.run_pure, Result.andThen_ok]
      exact run_binS t (by simpa [bin] using h)
    | _ => simp [bin] at h
  | _ => simp [bin] at h
end Go.Proofs.YtjfnhdiimibmiaaDoor.Sx

/- '==' and '!='. -/
namespace Go.Proofs.YtjfnhdiimibmiaaDoor.Sx
variable {P : Program} {μ : Emb} {w : World}

theorem eqL_len : ∀ {ls : List LK} {xs ys : List AV} {b : Bool}, eqL ls xs ys = some b → xs.length = ls.length ∧ ys.length = ls.length := by
  intro ls
  induction ls with
  | nil => intro xs ys b h; cases xs <;> cases ys <;> first | exact ⟨rfl, rfl⟩ | (simp [eqL] at h)
  | cons k ls ih =>
    intro xs ys b h
    cases xs with
    | nil => simp [eqL] at h
    | cons x xs =>
      cases ys with
      | nil => simp [eqL] at h
      | cons y ys =>
        simp only [eqL] at h
        split at h
        · have := ih h; simp [this.1, this.2]
        · split at h
          · rename_i hh; simp only [List.length_cons]; omega
          · cases h
        · cases h
theorem eqL_append : ∀ {l1 l2 : List LK} {x1 x2 y1 y2 : List AV} {b : Bool}, x1.length = l1.length → y1.length = l1.length → eqL (l1 ++ l2) (x1 ++ x2) (y1 ++ y2) = some b →
    ∃ b1, eqL l1 x1 y1 = some b1 ∧ (b1 = false → b = false) ∧ (b1 = true → eqL l2 x2 y2 = some b) := by
  intro l1
  induction l1 with
  | nil =>
    intro l2 x1 x2 y1 y2 b hx hy h
    cases x1 with
    | cons => simp at hx
    | nil => cases y1 with
      | cons => simp at hy
      | nil => exact ⟨true, rfl, by simp, fun _ => by simpa using h⟩
  | cons k l1 ih =>
    intro l2 x1 x2 y1 y2 b hx hy h
    cases x1 with
    | nil => simp at hx
    | cons x x1 => cases y1 with
      | nil => simp at hy
      | cons y y1 =>
        simp only [List.cons_append, eqL] at h ⊢
        cases he : eqLeaf k x y with
        | none => simp [he] at h
        | some c =>
          cases c with
          | true => simp only [he] at h ⊢; exact ih (by simpa using hx) (by simpa using hy) h
          | false =>
            simp only [he] at h ⊢
            rw [if_pos ⟨by simpa using hx.symm, by simpa using hy.symm⟩]
            refine ⟨false, rfl, fun _ => ?_, by simp⟩
            split at h
            · simpa using h.symm
            · cases h

/-- The value that so many cells are, by the type. -/
def valOf (P : Program) (t : TypeId) (vs : List Value) : Value := match P.underlying t with
  | some (.struct _) | some (.array _ _) => .agg vs.toArray
  | _ => vs.headD undef

theorem leavesFs_pre {lv : TypeId → Option (List LK)} : ∀ {fs : List Field} {acc ls : List LK}, leavesFs P lv fs acc = some ls → ∃ r, ls = acc ++ r := by
  intro fs
  induction fs with
  | nil => intro acc ls h; simp [leavesFs] at h; exact ⟨[], by simp [h]⟩
  | cons f fs ih =>
    intro acc ls h
    simp only [leavesFs] at h
    split at h
    · split at h
      · rename_i l _ _; obtain ⟨r, hr⟩ := ih h; exact ⟨l ++ r, hr.trans (List.append_assoc _ _ _)⟩
      · cases h
    · cases h

theorem leavesT_size {n : Nat} {t : TypeId} {ls : List LK} (h : leavesT P n t = some ls) : sizeT P t = some ls.length := by
  cases n with
  | zero => simp [leavesT] at h
  | succ n =>
    simp only [leavesT] at h
    split at h
    · split at h <;> cases h; assumption
    · split at h <;> cases h; assumption
    · split at h <;> cases h; assumption
    · split at h
      · cases h
      · split at h
        · split at h <;> cases h; assumption
        · cases h
    · split at h
      · split at h
        · rename_i hh; cases h; rw [hh.2]; simp
        · cases h
      · cases h
    · cases h

theorem run_part {n : Nat} {t : TypeId} {ls : List LK} (h : leavesT P n t = some ls) {cs : Array Value} {off : Nat} (hl : off + ls.length ≤ cs.size) :
    (part t cs off).run P w = .ok (valOf P t ((cs.toList.drop off).take ls.length)) w := by
  have hs := leavesT_size h
  have hsz : ∀ w, (sizeOf t).run P w = .ok ls.length w := fun w => run_sizeT hs
  have leaf : ∀ d, P.underlying t = some d → (∀ fs, d ≠ .struct fs) → (∀ n e, d ≠ .array n e) → ls.length = 1 → (part t cs off).run P w = .ok (valOf P t ((cs.toList.drop off).take ls.length)) w := by
    intro d hd h1 h2 h3
    have hi : (isAgg t).run P w = .ok false w := by
      cases d <;> first | (simp [isAgg, run_underlying hd]; done) | (exact absurd rfl (h1 _)) | (exact absurd rfl (h2 _ _))
    have hv : valOf P t ((cs.toList.drop off).take ls.length) = ((cs.toList.drop off).take ls.length).headD undef := by
      unfold valOf; rw [hd]; cases d <;> first | rfl | (exact absurd rfl (h1 _)) | (exact absurd rfl (h2 _ _))
    have hlt : off < cs.size := by omega
    simp only [part, Sem.run_bind, hi, Result.andThen_ok, Bool.false_eq_true, if_false]
    rw [Array.getElem?_eq_getElem hlt, hv, h3]
    rw [List.drop_eq_getElem_cons (by simpa using hlt)]
    simp
  have comp : (isAgg t).run P w = .ok true w → valOf P t ((cs.toList.drop off).take ls.length) = .agg ((cs.toList.drop off).take ls.length).toArray → (part t cs off).run P w = .ok (valOf P t ((cs.toList.drop off).take ls.length)) w := by
    intro hi hv
    simp only [part, Sem.run_bind, hi, Result.andThen_ok, if_true, hsz]
    rw [hv]
    simp only [Sem.run_pure]
    congr 2
    apply Array.ext'
    simp [Array.toList_extract, List.extract_eq_take_drop]
  cases n with
  | zero => simp [leavesT] at h
  | succ n =>
    have h0 := h
    simp only [leavesT] at h
    split at h
    · rename_i hu; split at h <;> cases h; exact leaf _ hu (by simp) (by simp) rfl
    · rename_i hu; split at h <;> cases h; exact leaf _ hu (by simp) (by simp) rfl
    · rename_i hu; split at h <;> cases h; exact leaf _ hu (by simp) (by simp) rfl
    · rename_i hu; exact comp (by simp [isAgg, run_underlying hu]) (by simp [valOf, hu])
    · rename_i hu; exact comp (by simp [isAgg, run_underlying hu]) (by simp [valOf, hu])
    · cases h

theorem eqLeaf_i {x y : AV} {v v' : Value} {b : Bool} (hx : VR μ x v) (hy : VR μ y v') (h : eqLeaf .i x y = some b) : ∃ k m n, v = .int k m ∧ v' = .int k n ∧ b = (m == n) := by
  cases hx <;> cases hy <;> simp [eqLeaf] at h
  obtain ⟨h1, h2⟩ := h; subst h1; exact ⟨_, _, _, rfl, rfl, h2.symm⟩
theorem eqLeaf_s {x y : AV} {v v' : Value} {b : Bool} (hx : VR μ x v) (hy : VR μ y v') (h : eqLeaf .s x y = some b) : ∃ m n, v = .string m ∧ v' = .string n ∧ b = (m.data.toList == n.data.toList) := by
  cases hx <;> cases hy <;> simp [eqLeaf] at h
  exact ⟨_, _, rfl, rfl, by rw [← h]; rw [Bool.eq_iff_iff]; simp⟩
theorem eqLeaf_b {x y : AV} {v v' : Value} {b : Bool} (hx : VR μ x v) (hy : VR μ y v') (h : eqLeaf .b x y = some b) : ∃ m n, v = .bool m ∧ v' = .bool n ∧ b = (m == n) := by
  cases hx <;> cases hy <;> simp [eqLeaf] at h
  exact ⟨_, _, rfl, rfl, h.symm⟩

theorem equalIn_leaves : ∀ (n : Nat) (t : TypeId) (ls : List LK), leavesT P n t = some ls → ∀ (d : Nat), n ≤ d → ∀ (xs ys : List AV) (vs vs' : List Value) (b : Bool), VRL μ xs vs → VRL μ ys vs' → eqL ls xs ys = some b →
    ∀ w, (Op.equalIn d t (valOf P t vs) (valOf P t vs')).run P w = .ok b w := by
  intro n
  induction n with
  | zero => intro t ls h; simp [leavesT] at h
  | succ n ih =>
    intro t ls h d hd xs ys vs vs' b hx hy he w
    obtain ⟨d, rfl⟩ : ∃ m, d = m + 1 := ⟨d - 1, by omega⟩
    have leaf : ∀ k, ls = [k] → ∃ x y v v' , xs = [x] ∧ ys = [y] ∧ vs = [v] ∧ vs' = [v'] ∧ VR μ x v ∧ VR μ y v' ∧ eqLeaf k x y = some b := by
      intro k hk
      subst hk
      have hlen := eqL_len he
      match xs, ys, hlen with
      | [x], [y], _ =>
        cases hx with | cons hx1 hx2 => cases hx2; cases hy with | cons hy1 hy2 =>
          cases hy2
          refine ⟨x, y, _, _, rfl, rfl, rfl, rfl, hx1, hy1, ?_⟩
          simp only [eqL] at he
          cases hl : eqLeaf k x y with
          | none => simp [hl] at he
          | some c => cases c <;> simp [hl] at he <;> first | (rw [he]) | (simp [eqL] at he; rw [he])
    simp only [leavesT] at h
    split at h
    · rename_i k hu
      split at h <;> cases h
      obtain ⟨x, y, v, v', rfl, rfl, rfl, rfl, hv, hv', hb⟩ := leaf _ rfl
      obtain ⟨k', m, m', rfl, rfl, rfl⟩ := eqLeaf_i hv hv' hb
      simp only [valOf, hu, List.headD_cons]
      exact run_equalIn_int w d t _ _ _ _ hu
    · rename_i hu
      split at h <;> cases h
      obtain ⟨x, y, v, v', rfl, rfl, rfl, rfl, hv, hv', hb⟩ := leaf _ rfl
      obtain ⟨m, m', rfl, rfl, rfl⟩ := eqLeaf_s hv hv' hb
      simp only [valOf, hu, List.headD_cons]
      rw [run_equalIn_string w d t _ _ hu, toList_eq, toList_eq]
    · rename_i hu
      split at h <;> cases h
      obtain ⟨x, y, v, v', rfl, rfl, rfl, rfl, hv, hv', hb⟩ := leaf _ rfl
      obtain ⟨m, m', rfl, rfl, rfl⟩ := eqLeaf_b hv hv' hb
      simp only [valOf, hu, List.headD_cons]
      exact run_equalIn_bool' w d t _ _ hu
    · rename_i fs hu
      split at h
      · cases h
      · rename_i hsi
        split at h
        · rename_i l hfs
          split at h
          · cases h
            have hf : P.fieldsOf t = fs := by simp [Program.fieldsOf, hu]
            have hv1 : valOf P t vs = .agg vs.toArray := by simp [valOf, hu]
            have hv2 : valOf P t vs' = .agg vs'.toArray := by simp [valOf, hu]
            rw [hv1, hv2, run_equalIn_struct w d t _ _ (by rw [hf]; exact hu) (by simpa using hsi), hf]
            have key : ∀ (fl : List Field) (acc ls : List LK), leavesFs P (leavesT P n) fl acc = some ls → ∀ (r : List LK), ls = acc ++ r → xs.length = ls.length → ys.length = ls.length → eqL r (xs.drop acc.length) (ys.drop acc.length) = some b →
                (Op.eqFields d vs.toArray vs'.toArray fl).run P w = .ok b w := by
              intro fl
              induction fl with
              | nil =>
                intro acc ls h1 r hr _ _ hq
                simp [leavesFs] at h1
                subst h1
                obtain rfl : r = [] := by simpa using hr
                have hl := eqL_len hq
                have : xs.drop acc.length = [] := List.eq_nil_of_length_eq_zero hl.1
                have h2 : ys.drop acc.length = [] := List.eq_nil_of_length_eq_zero hl.2
                rw [this, h2] at hq
                simp [eqL] at hq
                subst hq
                simp [Op.eqFields]
              | cons f fl ih2 =>
                intro acc ls h1 r hr hxl hyl hq
                simp only [leavesFs] at h1
                split at h1
                · rename_i l hlf
                  split at h1
                  · rename_i hc
                    obtain ⟨hn, ho, hsz⟩ := hc
                    obtain ⟨r2, hr2⟩ := leavesFs_pre h1
                    have hrr : r = l ++ r2 := by
                      have h5 : acc ++ r = acc ++ (l ++ r2) := by rw [← hr, hr2, List.append_assoc]
                      exact List.append_cancel_left h5
                    subst hrr
                    have hll : acc.length + l.length ≤ ls.length := by rw [hr]; simp only [List.length_append]; omega
                    have hvl := hx.length
                    have hvl' := hy.length
                    have sx : xs.drop acc.length = (xs.drop acc.length).take l.length ++ xs.drop (acc ++ l).length := by
                      rw [List.length_append, ← List.drop_drop, List.take_append_drop]
                    have sy : ys.drop acc.length = (ys.drop acc.length).take l.length ++ ys.drop (acc ++ l).length := by
                      rw [List.length_append, ← List.drop_drop, List.take_append_drop]
                    rw [sx, sy] at hq
                    obtain ⟨b1, hb1, hbf, hbt⟩ := eqL_append (by simp; omega) (by simp; omega) hq
                    have p1 : (part f.type vs.toArray f.offset).run P w = .ok (valOf P f.type ((vs.drop acc.length).take l.length)) w := by
                      rw [ho]; exact run_part hlf (by simp only [List.size_toArray]; omega)
                    have p2 : (part f.type vs'.toArray f.offset).run P w = .ok (valOf P f.type ((vs'.drop acc.length).take l.length)) w := by
                      rw [ho]; exact run_part hlf (by simp only [List.size_toArray]; omega)
                    have p3 := ih f.type l hlf d (by omega) _ _ _ _ b1 ((hx.drop acc.length).take l.length) ((hy.drop acc.length).take l.length) hb1 w
                    simp only [Op.eqFields, if_pos hn, Sem.run_bind, p1, p2, p3, Result.andThen_ok]
                    cases b1 with
                    | false => simp [hbf rfl]
                    | true =>
                      simp only [Bool.not_true, Bool.false_eq_true, if_false]
                      exact ih2 (acc ++ l) ls h1 r2 hr2 hxl hyl (hbt rfl)
                  · cases h1
                · cases h1
            have hlen := eqL_len he
            exact key fs.toList [] ls hfs ls rfl hlen.1 hlen.2 (by simpa using he)
          · cases h
        · cases h
    · rename_i len e hu
      split at h
      · rename_i l hle
        split at h
        · rename_i hc
          cases h
          obtain ⟨hse, hst⟩ := hc
          have hv1 : valOf P t vs = .agg vs.toArray := by simp [valOf, hu]
          have hv2 : valOf P t vs' = .agg vs'.toArray := by simp [valOf, hu]
          obtain ⟨i, hi, hic⟩ : ∃ i, P.info? e = some i ∧ P.cellsOf e = l.length := by
            unfold sizeT at hse
            cases hie : P.info? e with
            | none => simp [hie] at hse
            | some i => simp [hie] at hse; exact ⟨i, rfl, by simp [Program.cellsOf, hie, hse]⟩
          rw [hv1, hv2, run_equalIn_array w d _ _ hu hi, hic]
          have hlen := eqL_len he
          have hfl : ∀ m : Nat, (List.replicate m l).flatten.length = m * l.length := by intro m; simp
          have key : ∀ (m k : Nat), k + m = len → eqL (List.replicate m l).flatten (xs.drop (k * l.length)) (ys.drop (k * l.length)) = some b →
              (Op.eqItems d e l.length vs.toArray vs'.toArray (List.range' k m)).run P w = .ok b w := by
            intro m
            induction m with
            | zero =>
              intro k hk hq
              have hl := eqL_len hq
              have : xs.drop (k * l.length) = [] := List.eq_nil_of_length_eq_zero hl.1
              have h2 : ys.drop (k * l.length) = [] := List.eq_nil_of_length_eq_zero hl.2
              rw [this, h2] at hq
              simp [eqL] at hq
              subst hq
              simp [Op.eqItems]
            | succ m ih2 =>
              intro k hk hq
              have hvl := hx.length
              have hvl' := hy.length
              have hmul : k * l.length + (m + 1) * l.length = len * l.length := by rw [← Nat.add_mul, hk]
              have hmul2 : (m + 1) * l.length = m * l.length + l.length := Nat.succ_mul _ _
              have hk1 : (k + 1) * l.length = k * l.length + l.length := Nat.succ_mul _ _
              have hx3 := hlen.1
              have hy3 := hlen.2
              rw [hfl] at hx3 hy3
              have sx : xs.drop (k * l.length) = (xs.drop (k * l.length)).take l.length ++ xs.drop ((k + 1) * l.length) := by
                rw [hk1, ← List.drop_drop, List.take_append_drop]
              have sy : ys.drop (k * l.length) = (ys.drop (k * l.length)).take l.length ++ ys.drop ((k + 1) * l.length) := by
                rw [hk1, ← List.drop_drop, List.take_append_drop]
              rw [sx, sy, List.replicate_succ, List.flatten_cons] at hq
              obtain ⟨b1, hb1, hbf, hbt⟩ := eqL_append (by simp; omega) (by simp; omega) hq
              have p1 : (part e vs.toArray (k * l.length)).run P w = .ok (valOf P e ((vs.drop (k * l.length)).take l.length)) w := run_part hle (by simp only [List.size_toArray]; omega)
              have p2 : (part e vs'.toArray (k * l.length)).run P w = .ok (valOf P e ((vs'.drop (k * l.length)).take l.length)) w := run_part hle (by simp only [List.size_toArray]; omega)
              have p3 := ih e l hle d (by omega) _ _ _ _ b1 ((hx.drop (k * l.length)).take l.length) ((hy.drop (k * l.length)).take l.length) hb1 w
              simp only [List.range'_succ, Op.eqItems, Sem.run_bind, p1, p2, p3, Result.andThen_ok]
              cases b1 with
              | false => simp [hbf rfl]
              | true =>
                simp only [Bool.not_true, Bool.false_eq_true, if_false]
                exact ih2 (k + 1) (by omega) (hbt rfl)
          rw [List.range_eq_range']
          exact key len 0 (by omega) (by simpa using he)
        · cases h
      · cases h
    · cases h
end Go.Proofs.YtjfnhdiimibmiaaDoor.Sx

/- Operations that look at nothing but their operands: the whole. -/
namespace Go.Proofs.YtjfnhdiimibmiaaDoor.Sx
variable {P : Program} {μ : Emb} {w : World}

theorem isConst_spec {x : Operand} (h : Region.isConst x = true) : ∃ c, x = .const c := by
  cases x <;> simp [Region.isConst] at h
  exact ⟨_, rfl⟩
theorem eqV_agg {ls : List LK} {u v : AV} {b : Bool} (h : eqV (.agg ls) u v = some b) : ∃ xs ys, u = .agg xs ∧ v = .agg ys ∧ eqL ls xs ys = some b := by
  unfold eqV at h
  split at h <;> first | (simp at h; done) | exact ⟨_, _, rfl, rfl, h⟩
theorem eqKind_und {t : TypeId} {x y : Operand} {kd : EqK} (h : eqKind P t x y = some kd) :
    (kd = .bool ∧ P.underlying t = some .bool) ∨ (kd = .ptr ∧ ∃ e, P.underlying t = some (.pointer e)) ∨ (kd = .sl ∧ ∃ e, P.underlying t = some (.slice e)) ∨
    (kd = .map ∧ ∃ k e, P.underlying t = some (.map k e)) ∨ (kd = .fn ∧ ∃ a b c, P.underlying t = some (.func a b c)) ∨
    (kd = .ifc ∧ (∃ ms, P.underlying t = some (.interface ms)) ∧ ((∃ c, x = .const c) ∨ (∃ c, y = .const c))) ∨
    (∃ ls, kd = .agg ls ∧ leavesT P 9 t = some ls ∧ P.eqGuardType P.depth t = false ∧ ∀ vs, valOf P t vs = .agg vs.toArray) := by
  unfold eqKind at h
  split at h
  · rename_i hu; cases h; exact .inl ⟨rfl, hu⟩
  · rename_i hu; cases h; exact .inr (.inl ⟨rfl, _, hu⟩)
  · rename_i hu; cases h; exact .inr (.inr (.inl ⟨rfl, _, hu⟩))
  · rename_i hu; cases h; exact .inr (.inr (.inr (.inl ⟨rfl, _, _, hu⟩)))
  · rename_i hu; cases h; exact .inr (.inr (.inr (.inr (.inl ⟨rfl, _, _, _, hu⟩))))
  · rename_i hu
    split at h
    · rename_i hc
      cases h
      refine .inr (.inr (.inr (.inr (.inr (.inl ⟨rfl, ⟨_, hu⟩, ?_⟩)))))
      simp only [Bool.or_eq_true] at hc
      exact hc.imp isConst_spec isConst_spec
    · cases h
  · rename_i hu
    split at h
    · cases h
    · rename_i hg
      cases hl : leavesT P 9 t with
      | none => simp [hl] at h
      | some ls => simp [hl] at h; subst h; exact .inr (.inr (.inr (.inr (.inr (.inr ⟨ls, rfl, rfl, by simpa using hg, fun vs => by simp [valOf, hu]⟩)))))
  · rename_i hu
    split at h
    · cases h
    · rename_i hg
      cases hl : leavesT P 9 t with
      | none => simp [hl] at h
      | some ls => simp [hl] at h; subst h; exact .inr (.inr (.inr (.inr (.inr (.inr ⟨ls, rfl, rfl, by simpa using hg, fun vs => by simp [valOf, hu]⟩)))))
  · cases h


section eqs
variable (d : Nat) {t : TypeId}
theorem eq_ptr1 {e : TypeId} (h : P.underlying t = some (.pointer e)) (b : Option Addr) : (Op.equalIn (d + 1) t (.pointer none) (.pointer b)).run P w = .ok b.isNone w := by
  simp only [Op.equalIn, Sem.run_bind, run_underlying h, Result.andThen_ok]; rfl
theorem eq_ptr2 {e : TypeId} (h : P.underlying t = some (.pointer e)) (a : Addr) : (Op.equalIn (d + 1) t (.pointer (some a)) (.pointer none)).run P w = .ok false w := by
  simp only [Op.equalIn, Sem.run_bind, run_underlying h, Result.andThen_ok]; rfl
theorem eq_sl1 {e : TypeId} (h : P.underlying t = some (.slice e)) (l c l' c' : Nat) (b : Option Addr) : (Op.equalIn (d + 1) t (.slice none l c) (.slice b l' c')).run P w = .ok b.isNone w := by
  simp only [Op.equalIn, Sem.run_bind, run_underlying h, Result.andThen_ok]; rfl
theorem eq_sl2 {e : TypeId} (h : P.underlying t = some (.slice e)) (l c l' c' : Nat) (a : Addr) : (Op.equalIn (d + 1) t (.slice (some a) l c) (.slice none l' c')).run P w = .ok false w := by
  simp only [Op.equalIn, Sem.run_bind, run_underlying h, Result.andThen_ok]; rfl
theorem eq_map1 {k e : TypeId} (h : P.underlying t = some (.map k e)) (b : Option Nat) : (Op.equalIn (d + 1) t (.map none) (.map b)).run P w = .ok b.isNone w := by
  simp only [Op.equalIn, Sem.run_bind, run_underlying h, Result.andThen_ok]; rfl
theorem eq_map2 {k e : TypeId} (h : P.underlying t = some (.map k e)) (a : Nat) : (Op.equalIn (d + 1) t (.map (some a)) (.map none)).run P w = .ok false w := by
  simp only [Op.equalIn, Sem.run_bind, run_underlying h, Result.andThen_ok]; rfl
variable {x y : Array TypeId} {z : Bool}
theorem eq_fn1 (h : P.underlying t = some (.func x y z)) : (Op.equalIn (d + 1) t .nilFunc .nilFunc).run P w = .ok true w := by
  simp only [Op.equalIn, Sem.run_bind, run_underlying h, Result.andThen_ok]; rfl
theorem eq_fn2 (h : P.underlying t = some (.func x y z)) (f : Fn) (a b : Array Value) : (Op.equalIn (d + 1) t .nilFunc (.func f a b)).run P w = .ok false w := by
  simp only [Op.equalIn, Sem.run_bind, run_underlying h, Result.andThen_ok]; rfl
theorem eq_fn3 (h : P.underlying t = some (.func x y z)) (f : Fn) (a b : Array Value) : (Op.equalIn (d + 1) t (.func f a b) .nilFunc).run P w = .ok false w := by
  simp only [Op.equalIn, Sem.run_bind, run_underlying h, Result.andThen_ok]; rfl
variable {ms : Array (String × TypeId)}
theorem eq_if1 (h : P.underlying t = some (.interface ms)) : (Op.equalIn (d + 1) t .nilIface .nilIface).run P w = .ok true w := by
  simp only [Op.equalIn, Sem.run_bind, run_underlying h, Result.andThen_ok]; rfl
theorem eq_if2 (h : P.underlying t = some (.interface ms)) (u : TypeId) (v : Value) : (Op.equalIn (d + 1) t .nilIface (.iface u v)).run P w = .ok false w := by
  simp only [Op.equalIn, Sem.run_bind, run_underlying h, Result.andThen_ok]; rfl
theorem eq_if3 (h : P.underlying t = some (.interface ms)) (u : TypeId) (v : Value) : (Op.equalIn (d + 1) t (.iface u v) .nilIface).run P w = .ok false w := by
  simp only [Op.equalIn, Sem.run_bind, run_underlying h, Result.andThen_ok]; rfl
end eqs

/-- Neither two whole numbers, nor two texts .. : '==' asks 'equal'. -/
theorem binOp_equal {t : TypeId} {u v : Value} {b : Bool} (h1 : ∀ k a, u ≠ .int k a) (h2 : ∀ k a, u ≠ .float k a) (h3 : ∀ k a c, u ≠ .complex k a c) (h4 : ∀ s, u ≠ .string s) (h : (Op.equal t u v).run P w = .ok b w) :
    (binOp .eql t u v).run P w = .ok (.bool b) w ∧ (binOp .neq t u v).run P w = .ok (.bool !b) w := by
  cases u <;> first | (exact absurd rfl (h1 _ _)) | (exact absurd rfl (h2 _ _)) | (exact absurd rfl (h3 _ _ _)) | (exact absurd rfl (h4 _)) | (cases v <;> simp [binOp, h])

theorem run_eqV {t : TypeId} {x y : Operand} {kd : EqK} {u v : AV} {u' v' : Value} {b : Bool} (hk : eqKind P t x y = some kd) (hu : VR μ u u') (hv : VR μ v v') (h : eqV kd u v = some b) :
    (do eqGuard .eql t x y u' v'; binOp .eql t u' v' : Sem Value).run P w = .ok (.bool b) w ∧ (do eqGuard .neq t x y u' v'; binOp .neq t u' v' : Sem Value).run P w = .ok (.bool !b) w := by
  have fin : (∀ op, eqGuard op t x y u' v' = pure ()) → (∀ k a, u' ≠ .int k a) → (∀ k a, u' ≠ .float k a) → (∀ k a c, u' ≠ .complex k a c) → (∀ s, u' ≠ .string s) → (Op.equal t u' v').run P w = .ok b w →
      (do eqGuard .eql t x y u' v'; binOp .eql t u' v' : Sem Value).run P w = .ok (.bool b) w ∧ (do eqGuard .neq t x y u' v'; binOp .neq t u' v' : Sem Value).run P w = .ok (.bool !b) w := by
    intro hg h1 h2 h3 h4 he
    simp only [hg, Sem.run_bind, Sem.run_pure, Result.andThen_ok]
    exact binOp_equal h1 h2 h3 h4 he
  rcases eqKind_und hk with ⟨rfl, ht⟩ | ⟨rfl, e, ht⟩ | ⟨rfl, e, ht⟩ | ⟨rfl, k, e, ht⟩ | ⟨rfl, a, c, d, ht⟩ | ⟨rfl, ⟨ms, ht⟩, hc⟩ | ⟨ls, rfl, hl, hg, hval⟩
  · cases hu <;> cases hv <;> simp [eqV] at h
    subst h
    exact fin (fun op => by cases op <;> rfl) (by simp) (by simp) (by simp) (by simp) (run_equalIn_bool w 9999 t _ _ ht)
  · cases hu <;> cases hv <;> simp [eqV] at h <;> subst h <;> refine fin (fun op => by cases op <;> rfl) (by simp) (by simp) (by simp) (by simp) ?_
    · exact eq_ptr1 9999 ht _
    · exact eq_ptr1 9999 ht _
    · exact eq_ptr2 9999 ht _
  · cases hu <;> cases hv <;> simp [eqV] at h <;> subst h <;> refine fin (fun op => by cases op <;> rfl) (by simp) (by simp) (by simp) (by simp) ?_
    all_goals first | exact eq_sl1 9999 ht _ _ _ _ _ | exact eq_sl2 9999 ht _ _ _ _ _
  · cases hu <;> cases hv <;> simp [eqV] at h <;> subst h <;> refine fin (fun op => by cases op <;> rfl) (by simp) (by simp) (by simp) (by simp) ?_
    all_goals first | exact eq_map1 9999 ht _ | exact eq_map2 9999 ht _
  · cases hu <;> cases hv <;> simp [eqV] at h <;> subst h <;> refine fin (fun op => by cases op <;> rfl) (by simp) (by simp) (by simp) (by simp) ?_
    all_goals first | exact eq_fn1 9999 ht | exact eq_fn2 9999 ht _ _ _ | exact eq_fn3 9999 ht _ _ _
  · cases hu <;> cases hv <;> simp [eqV] at h <;> subst h <;> refine fin (fun op => ?_) (by simp) (by simp) (by simp) (by simp) (by first | exact eq_if1 9999 ht | exact eq_if2 9999 ht _ _ | exact eq_if3 9999 ht _ _)
    all_goals first | (cases op <;> rfl; done) | (rcases hc with ⟨c, rfl⟩ | ⟨c, rfl⟩ <;> first | exact eqGuard_nil_constL _ _ _ _ | exact eqGuard_nil_constR _ _ _ _)
  · obtain ⟨xs, ys, rfl, rfl, h⟩ := eqV_agg h
    cases hu with
    | agg hxs =>
      rename_i cs'
      cases hv with
      | agg hys =>
        rename_i ds'
        have he := equalIn_leaves 9 t ls hl 10000 (by omega) _ _ _ _ b hxs hys h
        rw [hval, hval] at he
        have hguard : ∀ op, (eqGuard op t x y (.agg cs') (.agg ds')).run P w = .ok () w := fun op => run_eqGuard_agg w op t x y _ _ hg
        have he' : (Op.equal t (.agg cs') (.agg ds')).run P w = .ok b w := by simpa [Op.equal, Op.maxDepth] using he w
        have := binOp_equal (u := .agg cs') (v := .agg ds') (by simp) (by simp) (by simp) (by simp) he'
        simp only [Sem.run_bind, hguard, Result.andThen_ok]
        exact this
end Go.Proofs.YtjfnhdiimibmiaaDoor.Sx

/- Operations that look at nothing but their operands: the run of each. -/
namespace Go.Proofs.YtjfnhdiimibmiaaDoor.Sx
variable {P : Program} {μ : Emb} {w : World} {A : Tm} {a : Act} {v : AV}

theorem AR.add {d : Ad} {d' : Addr} (h : AR μ d d') (n : Nat) : AR μ ⟨d.rf, d.off + n⟩ (d'.add n) := by
  unfold Addr.add
  split
  · rename_i h0; subst h0; exact ⟨h.rf, by simp [h.off], h.spot⟩
  · exact ⟨h.rf, by simp [h.off]; omega, rfl⟩

/-- 'the operation yields a value as the second reading has it, and leaves the world alone' -/
def Yields (P : Program) (μ : Emb) (a : Act) (o : Oper) (v : AV) (w : World) : Prop := ∃ v', (execOp a.eval o).run P w = .ok (.value v') w ∧ VR μ v v'
theorem Yields.mk {o : Oper} {s : Sem Value} {v' : Value} (ho : execOp a.eval o = (do pure (.value (← s)))) (hr : s.run P w = .ok v' w) (hv : VR μ v v') : Yields P μ a o v w :=
  ⟨v', by rw [ho]; simp [hr], hv⟩

theorem noUnk_of {v : AV} (h : v ≠ .unk) : noUnk v = true := by cases v <;> first | rfl | exact absurd rfl h

theorem y_pick {o : Oper} {c x y : Operand} {c' x' y' : SX} (hop : o.op = .pick c x y) (hA : TmR μ A a.tmps) (hc : compX c = some c') (hx : compX x = some x') (hy : compX y = some y')
    (hv : evP A (.pick c' x' y') = some v) : Yields P μ a o v w := by
  have rc := evX_VR (μ := μ) hA hc
  simp only [evP] at hv
  split at hv
  · rename_i e
    rw [e] at rc
    cases hcv : a.eval c <;> rw [hcv] at rc <;> cases rc
    cases hv
    exact ⟨_, by simp [execOp, hop, hcv, asBool], evX_VR hA hx⟩
  · rename_i e
    rw [e] at rc
    cases hcv : a.eval c <;> rw [hcv] at rc <;> cases rc
    cases hv
    exact ⟨_, by simp [execOp, hop, hcv, asBool], evX_VR hA hy⟩
  · cases hv

theorem y_nilc {o : Oper} {x : Operand} {x' : SX} (hop : o.op = .nilCheck x) (hA : TmR μ A a.tmps) (hx : compX x = some x') (hv : evP A (.nilc x') = some v) : Yields P μ a o v w := by
  have r := evX_VR (μ := μ) hA hx
  simp only [evP] at hv
  split at hv
  · rename_i e
    rw [e] at r
    cases hcv : a.eval x <;> rw [hcv] at r <;> cases r
    rename_i h
    cases hv
    exact ⟨_, by simp [execOp, hop, hcv], .ptr h⟩
  · rename_i e
    rw [e] at r
    cases hcv : a.eval x <;> rw [hcv] at r <;> cases r
    rename_i h1 h2
    cases hv
    exact ⟨_, by simp [execOp, hop, hcv], .fn _ h1 h2⟩
  · rename_i e
    rw [e] at r
    cases hcv : a.eval x <;> rw [hcv] at r <;> cases r
    rename_i h1
    cases hv
    exact ⟨_, by simp [execOp, hop, hcv], .yld h1⟩
  · cases hv

theorem y_un {o : Oper} {op : UnOp} {t : TypeId} {x : Operand} {x' : SX} (hop : o.op = .unOp op t x) (hA : TmR μ A a.tmps) (hx : compX x = some x') (hv : evP A (.un op x') = some v) : Yields P μ a o v w := by
  have r := evX_VR (μ := μ) hA hx
  simp only [evP] at hv
  split at hv
  · rename_i e
    rw [e] at r
    cases hcv : a.eval x <;> rw [hcv] at r <;> cases r
    cases hv
    exact ⟨_, by simp [execOp, hop, hcv, Op.unary], .bool _⟩
  · rename_i e
    rw [e] at r
    cases hcv : a.eval x <;> rw [hcv] at r <;> cases r
    cases hv
    exact ⟨_, by simp [execOp, hop, hcv, Op.unary, Op.intArith], .int _ _⟩
  · rename_i k n e
    rw [e] at r
    cases hcv : a.eval x <;> rw [hcv] at r <;> cases r
    cases hb : bits .xor k (if k.signed then -1 else k.max) n with
    | none => simp [hb] at hv
    | some z =>
      simp [hb] at hv
      subst hv
      refine ⟨_, ?_, .int _ z⟩
      have := run_bits (P := P) (w := w) hb
      simp only [execOp, hop, hcv, Op.unary, Sem.run_bind, this, Result.andThen_ok, Sem.run_pure]
  · cases hv

theorem y_conv {o : Oper} {s d : TypeId} {k k' : IntKind} {x : Operand} {x' : SX} (hop : o.op = .convert s d x) (hs : P.underlying s = some (.int k')) (hd : P.underlying d = some (.int k)) (hA : TmR μ A a.tmps) (hx : compX x = some x')
    (hv : evP A (.conv k x') = some v) : Yields P μ a o v w := by
  have r := evX_VR (μ := μ) hA hx
  simp only [evP] at hv
  split at hv
  · rename_i e
    rw [e] at r
    cases hcv : a.eval x <;> rw [hcv] at r <;> cases r
    cases hv
    refine ⟨_, ?_, .int _ _⟩
    simp only [execOp, hop, hcv, convert, Sem.run_bind, run_underlying hs, run_underlying hd, Result.andThen_ok, Conv.intToInt, Sem.run_pure]
  · cases hv
theorem y_convS {o : Oper} {s d : TypeId} {x : Operand} {x' : SX} (hop : o.op = .convert s d x) (hs : P.underlying s = some .string) (hd : P.underlying d = some .string) (hA : TmR μ A a.tmps) (hx : compX x = some x')
    (hv : evP A (.conS x') = some v) : Yields P μ a o v w := by
  have r := evX_VR (μ := μ) hA hx
  simp only [evP] at hv
  split at hv
  · rename_i e
    rw [e] at r
    cases hcv : a.eval x <;> rw [hcv] at r <;> cases r
    cases hv
    refine ⟨_, ?_, .str _⟩
    simp only [execOp, hop, hcv, convert, Sem.run_bind, run_underlying hs, run_underlying hd, Result.andThen_ok, Sem.run_pure]
  · cases hv

theorem y_iface {o : Oper} {t : TypeId} {d : TypeDesc} {x : Operand} {x' : SX} (hop : o.op = .makeInterface t x) (ht : P.underlying t = some d) (hd : ∀ ms, d ≠ .interface ms) (hA : TmR μ A a.tmps) (hx : compX x = some x')
    (hv : evP A (.iface t x') = some v) : Yields P μ a o v w := by
  have r := evX_VR (μ := μ) hA hx
  have : v = .ifc t (evX A x') := by
    simp only [evP] at hv
    split at hv
    · cases hv
    · cases hv; rfl
  subst this
  refine ⟨_, ?_, .ifc t r⟩
  simp only [execOp, hop, Instr.makeInterface, Sem.run_bind, run_underlying ht, Result.andThen_ok]
  cases d <;> first | rfl | exact absurd rfl (hd _)

theorem y_mkfn {o : Oper} {f : FuncId} {x y : Array Operand} {x' y' : List SX} (hop : o.op = .makeFunc (.func f) x y) (hA : TmR μ A a.tmps) (hx : compXs x = some x') (hy : compXs y = some y')
    (hv : evP A (.mkfn f x' y') = some v) : Yields P μ a o v w := by
  simp only [evP, Option.some.injEq] at hv
  subst hv
  exact ⟨_, by simp [execOp, hop, Instr.makeFunc], .fn f (evXs_VR hA hx) (evXs_VR hA hy)⟩

theorem y_faddr {o : Oper} {t : TypeId} {fs : Array Field} {fd : Field} {i k : Nat} {x : Operand} {x' : SX} (hop : o.op = .fieldAddr t x i) (ht : P.underlying t = some (.struct fs)) (hf : fs[i]? = some fd) (hs : sizeT P fd.type = some (k + 1))
    (hA : TmR μ A a.tmps) (hx : compX x = some x') (hv : evP A (.faddr fd.offset x') = some v) : Yields P μ a o v w := by
  have r := evX_VR (μ := μ) hA hx
  simp only [evP] at hv
  split at hv
  · rename_i e
    rw [e] at r
    cases hcv : a.eval x <;> rw [hcv] at r <;> cases r
    rename_i h
    cases hv
    refine ⟨_, ?_, .ptr (h.add fd.offset)⟩
    simp only [execOp, hop, hcv, Instr.fieldAt, Sem.run_bind, run_underlying ht, Result.andThen_ok, hf, Instr.sureAddr, Sem.run_pure, fieldPlace, run_sizeT hs, Nat.succ_ne_zero, if_false]
  · cases hv

theorem run_partAV {t : TypeId} {n : Option Nat} (hn : aggN P t = some n) {cs : List AV} {cs' : Array Value} (hc : VRL μ cs cs'.toList) {off : Nat} {v : AV} (h : partAV cs off n = some v) : ∃ v', (part t cs' off).run P w = .ok v' w ∧ VR μ v v' := by
  obtain ⟨h1, h2⟩ := run_aggN (w := w) hn
  cases n with
  | none =>
    simp only [partAV] at h
    obtain ⟨v', hv', hr⟩ := hc.get h
    refine ⟨v', ?_, hr⟩
    have : cs'[off]? = some v' := by simpa using hv'
    simp only [part, Sem.run_bind, h1, Result.andThen_ok, Option.isSome, Bool.false_eq_true, if_false, this, Sem.run_pure]
  | some k =>
    simp only [partAV] at h
    split at h
    · cases h
      refine ⟨.agg (cs'.extract off (off + k)), ?_, .agg ?_⟩
      · simp only [part, Sem.run_bind, h1, Result.andThen_ok, Option.isSome, if_true, h2 k rfl, Sem.run_pure]
      · have := (hc.drop off).take k
        simpa [Array.toList_extract, List.extract_eq_take_drop] using this
    · cases h

theorem y_field {o : Oper} {t : TypeId} {fs : Array Field} {fd : Field} {i : Nat} {n : Option Nat} {x : Operand} {x' : SX} (hop : o.op = .field t x i) (ht : P.underlying t = some (.struct fs)) (hf : fs[i]? = some fd) (hn : aggN P fd.type = some n)
    (hA : TmR μ A a.tmps) (hx : compX x = some x') (hv : evP A (.field fd.offset n x') = some v) : Yields P μ a o v w := by
  have r := evX_VR (μ := μ) hA hx
  simp only [evP] at hv
  split at hv
  · rename_i e
    rw [e] at r
    cases hcv : a.eval x <;> rw [hcv] at r <;> cases r
    rename_i h
    obtain ⟨v', h1, h2⟩ := run_partAV (P := P) (w := w) hn h hv
    refine ⟨v', ?_, h2⟩
    simp only [execOp, hop, hcv, Instr.field, Sem.run_bind, run_underlying ht, Result.andThen_ok, hf, asAgg, Sem.run_pure, h1]
  · cases hv

theorem y_ext {o : Oper} {i : Nat} {x : Operand} {x' : SX} (hop : o.op = .extract x i) (hA : TmR μ A a.tmps) (hx : compX x = some x') (hv : evP A (.ext x' i) = some v) : Yields P μ a o v w := by
  have r := evX_VR (μ := μ) hA hx
  simp only [evP] at hv
  split at hv
  · rename_i e
    rw [e] at r
    cases hcv : a.eval x <;> rw [hcv] at r <;> cases r
    rename_i h
    obtain ⟨v', h1, h2⟩ := h.get hv
    refine ⟨v', ?_, h2⟩
    have h1' : ∀ {vs : Array Value}, vs.toList[i]? = some v' → vs[i]? = some v' := fun h => by simpa using h
    simp only [execOp, hop, hcv, Instr.extract, h1' h1, Sem.run_bind, Sem.run_pure, Result.andThen_ok]
  · cases hv
end Go.Proofs.YtjfnhdiimibmiaaDoor.Sx

/- Operations that look at nothing but their operands: indexes, slices, lengths. -/
namespace Go.Proofs.YtjfnhdiimibmiaaDoor.Sx
variable {P : Program} {μ : Emb} {w : World} {A : Tm} {a : Act} {v : AV}

theorem y_iaddr {o : Oper} {t e : TypeId} {es : Nat} {x i : Operand} {x' i' : SX} (hop : o.op = .indexAddr t x i) (ht : P.underlying t = some (.slice e)) (hs : sizeT P e = some es) (hA : TmR μ A a.tmps)
    (hx : compX x = some x') (hi : compX i = some i') (hv : evP A (.iaddr es x' i') = some v) : Yields P μ a o v w := by
  have rx := evX_VR (μ := μ) hA hx
  have ri := evX_VR (μ := μ) hA hi
  simp only [evP] at hv
  split at hv
  · rename_i d len cap k n e1 e2
    rw [e1] at rx
    rw [e2] at ri
    cases hxv : a.eval x <;> rw [hxv] at rx <;> cases rx
    cases hiv : a.eval i <;> rw [hiv] at ri <;> cases ri
    rename_i h hc
    split at hv
    · rename_i hb
      cases hv
      refine ⟨_, ?_, .ptr (h.add (n.toNat * es))⟩
      simp only [execOp, hop, hxv, hiv, Instr.indexAt, Sem.run_bind, asIntOf, Sem.run_pure, Result.andThen_ok, run_underlying ht, if_pos hb, run_sizeT hs]
    · cases hv
  · cases hv

theorem y_iaddrA {o : Oper} {t e : TypeId} {len es : Nat} {x i : Operand} {x' i' : SX} (hop : o.op = .indexAddr t x i) (ht : P.underlying t = some (.array len e)) (hs : sizeT P e = some es) (hA : TmR μ A a.tmps)
    (hx : compX x = some x') (hi : compX i = some i') (hv : evP A (.iaddrA len es x' i') = some v) : Yields P μ a o v w := by
  have rx := evX_VR (μ := μ) hA hx
  have ri := evX_VR (μ := μ) hA hi
  simp only [evP] at hv
  split at hv
  · rename_i d k n e1 e2
    rw [e1] at rx
    rw [e2] at ri
    cases hxv : a.eval x <;> rw [hxv] at rx <;> cases rx
    cases hiv : a.eval i <;> rw [hiv] at ri <;> cases ri
    rename_i h
    split at hv
    · rename_i hb
      cases hv
      refine ⟨_, ?_, .ptr (h.add (n.toNat * es))⟩
      simp only [execOp, hop, hxv, hiv, Instr.indexAt, Sem.run_bind, asIntOf, Sem.run_pure, Result.andThen_ok, run_underlying ht, Instr.sureAddr, if_pos hb, run_sizeT hs]
    · cases hv
  · cases hv

theorem y_indexA {o : Oper} {t e : TypeId} {len es : Nat} {n : Option Nat} {x i : Operand} {x' i' : SX} (hop : o.op = .index t x i) (ht : P.underlying t = some (.array len e)) (hs : sizeT P e = some es) (hn : aggN P e = some n) (hA : TmR μ A a.tmps)
    (hx : compX x = some x') (hi : compX i = some i') (hv : evP A (.indexA len es n.isSome x' i') = some v) : Yields P μ a o v w := by
  have rx := evX_VR (μ := μ) hA hx
  have ri := evX_VR (μ := μ) hA hi
  simp only [evP] at hv
  split at hv
  · rename_i cs k m e1 e2
    rw [e1] at rx
    rw [e2] at ri
    cases hxv : a.eval x <;> rw [hxv] at rx <;> cases rx
    cases hiv : a.eval i <;> rw [hiv] at ri <;> cases ri
    rename_i h
    split at hv
    · rename_i hb
      have hn' : (if n.isSome = true then some es else none) = n := by
        cases n with
        | none => rfl
        | some q =>
          have h2 := (run_aggN (w := w) hn).2 q rfl
          have h3 := run_sizeT (w := w) hs
          rw [h3] at h2
          cases h2
          rfl
      rw [hn'] at hv
      obtain ⟨v', h1, h2⟩ := run_partAV (P := P) (w := w) hn h hv
      refine ⟨v', ?_, h2⟩
      simp only [execOp, hop, hxv, hiv, Instr.index, Sem.run_bind, asIntOf, Sem.run_pure, Result.andThen_ok, run_underlying ht, if_pos hb, run_sizeT hs, h1]
    · cases hv
  · cases hv

theorem y_indexS {o : Oper} {t : TypeId} {x i : Operand} {x' i' : SX} (hop : o.op = .index t x i) (ht : P.underlying t = some .string) (hA : TmR μ A a.tmps)
    (hx : compX x = some x') (hi : compX i = some i') (hv : evP A (.indexS x' i') = some v) : Yields P μ a o v w := by
  have rx := evX_VR (μ := μ) hA hx
  have ri := evX_VR (μ := μ) hA hi
  simp only [evP] at hv
  split at hv
  · rename_i cs k m e1 e2
    rw [e1] at rx
    rw [e2] at ri
    cases hxv : a.eval x <;> rw [hxv] at rx <;> cases rx
    cases hiv : a.eval i <;> rw [hiv] at ri <;> cases ri
    rename_i s
    split at hv
    · rename_i hb
      cases hg : s.data.toList[m.toNat]? with
      | none => simp [hg] at hv
      | some c =>
        simp [hg] at hv
        subst hv
        refine ⟨_, ?_, .int _ _⟩
        have hlt : m.toNat < s.size := by
          have := (List.getElem?_eq_some_iff.1 hg).1
          simpa using this
        have hgs : s[m.toNat]? = some c := by
          have h1 : s[m.toNat]? = some s[m.toNat] := by simp [hlt]
          rw [h1]
          have h2 := (List.getElem?_eq_some_iff.1 hg).2
          rw [← h2]
          rfl
        simp only [execOp, hop, hxv, hiv, Instr.index, Sem.run_bind, asIntOf, Sem.run_pure, Result.andThen_ok, run_underlying ht, if_pos hb, hgs]
    · cases hv
  · cases hv

/-! ### Slicing -/
theorem run_sliceBound {x : Operand} {x' : SX} {hi hi' n : Nat} {code : BoundsCode} (hA : TmR μ A a.tmps) (hx : compX x = some x') (h : bound A x' hi = some n) (hle : hi ≤ hi') :
    (Instr.sliceBound (a.eval x) hi' code).run P w = .ok n w ∧ n ≤ hi := by
  have rx := evX_VR (μ := μ) hA hx
  unfold bound at h
  split at h
  · rename_i k m e
    rw [e] at rx
    cases hxv : a.eval x <;> rw [hxv] at rx <;> cases rx
    unfold inI at h
    split at h
    · rename_i h0
      split at h
      · rename_i h1
        cases h
        refine ⟨?_, h1⟩
        simp only [Instr.sliceBound, asIntOf, Sem.run_bind, Sem.run_pure, Result.andThen_ok]
        rw [if_pos ⟨h0, by omega⟩]; rfl
      · cases h
    · cases h
  · cases h

theorem run_bounds {b : Bool} {len cap len' cap' : Nat} {lo hi mx : Option Operand} {lo' hi' mx' : Option SX} {l h m : Nat} (hA : TmR μ A a.tmps) (h1 : compXo lo = some lo') (h2 : compXo hi = some hi') (h3 : compXo mx = some mx')
    (hb : bounds A len cap lo' hi' mx' = some (l, h, m)) (hlen : len' = len) (hcap : cap' = cap ∨ (cap ≤ cap' ∧ mx'.isSome = true)) : (Instr.sliceBounds b len' cap' (lo.map a.eval) (hi.map a.eval) (mx.map a.eval)).run P w = .ok (l, h, m) w := by
  subst hlen
  unfold bounds at hb
  split at hb
  · cases hb
  · rename_i m' em
    split at hb
    · cases hb
    · rename_i h' eh
      split at hb
      · cases hb
      · rename_i l' el
        cases hb
        have lowP : ∀ (code : BoundsCode) (z : Nat → Nat × Nat × Nat), (match lo.map a.eval with | some v => (do let l ← Instr.sliceBound v h code; pure (z l)) | none => (do let l ← pure 0; pure (z l)) : Sem (Nat × Nat × Nat)).run P w = .ok (z l) w := by
          intro code z
          cases lo with
          | none => simp only [compXo, Option.some.injEq] at h1; subst h1; simp at el; subst el; rfl
          | some x =>
            cases hc : compX x with
            | none => simp [compXo, hc] at h1
            | some x' =>
              simp [compXo, hc] at h1; subst h1
              simp only [Option.map_some, Sem.run_bind, (run_sliceBound hA hc el (Nat.le_refl _)).1, Result.andThen_ok, Sem.run_pure]
        cases mx with
        | none =>
          simp only [compXo, Option.some.injEq] at h3
          subst h3
          simp only [Option.isSome, Bool.false_eq_true, and_false, or_false] at hcap
          subst hcap
          simp at em
          subst em
          cases hi with
          | none =>
            simp only [compXo, Option.some.injEq] at h2; subst h2
            simp at eh; subst eh
            simp only [Instr.sliceBounds, Option.map_none, Sem.run_bind, Sem.run_pure, Result.andThen_ok]
            exact lowP _ fun l => (l, _, _)
          | some x =>
            cases hc : compX x with
            | none => simp [compXo, hc] at h2
            | some x' =>
              simp [compXo, hc] at h2; subst h2
              have := fun code => (run_sliceBound (P := P) (w := w) (code := code) hA hc eh (Nat.le_refl _)).1
              simp only [Instr.sliceBounds, Option.map_none, Option.map_some, Sem.run_bind, Sem.run_pure, Result.andThen_ok, this]
              exact lowP _ fun l => (l, _, _)
        | some y =>
          cases hcy : compX y with
          | none => simp [compXo, hcy] at h3
          | some y' =>
            simp [compXo, hcy] at h3; subst h3
            have hm := fun code => (run_sliceBound (P := P) (w := w) (code := code) (hi' := cap') hA hcy em (by rcases hcap with rfl | h <;> omega)).1
            cases hi with
            | none =>
              simp only [compXo, Option.some.injEq] at h2; subst h2
              simp at eh
            | some x =>
              cases hc : compX x with
              | none => simp [compXo, hc] at h2
              | some x' =>
                simp [compXo, hc] at h2; subst h2
                have := fun code => (run_sliceBound (P := P) (w := w) (code := code) hA hc eh (Nat.le_refl _)).1
                simp only [Instr.sliceBounds, Option.map_some, Sem.run_bind, Result.andThen_ok, hm, this]
                exact lowP _ fun l => (l, _, _)

theorem bounds_le {len cap : Nat} {lo hi mx : Option SX} {l h m : Nat} (hb : bounds A len cap lo hi mx = some (l, h, m)) : l ≤ h ∧ m ≤ cap := by
  unfold bounds at hb
  split at hb
  · cases hb
  · rename_i m' em
    split at hb
    · cases hb
    · rename_i h' eh
      split at hb
      · cases hb
      · rename_i l' el
        cases hb
        have bl : ∀ x k n, bound A x k = some n → n ≤ k := by
          intro x k n hh
          unfold bound at hh
          split at hh
          · unfold inI at hh
            split at hh
            · split at hh <;> cases hh; assumption
            · cases hh
          · cases hh
        constructor
        · cases lo with
          | none => simp at el; omega
          | some x => exact bl _ _ _ el
        · cases mx with
          | none => simp at em; omega
          | some x => exact bl _ _ _ em
theorem boundsO_le {len : Nat} {lo hi : Option SX} {l h : Nat} (hb : boundsO A len lo hi = some (l, h)) : l ≤ h ∧ h ≤ len := by
  unfold boundsO at hb
  have bl : ∀ x k n, bound A x k = some n → n ≤ k := by
    intro x k n hh
    unfold bound at hh
    split at hh
    · unfold inI at hh
      split at hh
      · split at hh <;> cases hh; assumption
      · cases hh
    · cases hh
  split at hb
  · cases hb
  · rename_i h' eh
    split at hb
    · cases hb
    · rename_i l' el
      cases hb
      constructor
      · cases lo with
        | none => simp at el; omega
        | some x => exact bl _ _ _ el
      · cases hi with
        | none => simp at eh; omega
        | some x => exact bl _ _ _ eh
theorem run_boundsO {b : Bool} {len cap' : Nat} {lo hi : Option Operand} {lo' hi' : Option SX} {l h : Nat} (hA : TmR μ A a.tmps) (h1 : compXo lo = some lo') (h2 : compXo hi = some hi')
    (hb : boundsO A len lo' hi' = some (l, h)) (hcap : len ≤ cap') : (Instr.sliceBounds b len cap' (lo.map a.eval) (hi.map a.eval) none).run P w = .ok (l, h, cap') w := by
  unfold boundsO at hb
  split at hb
  · cases hb
  · rename_i h' eh
    split at hb
    · cases hb
    · rename_i l' el
      cases hb
      have lowP : ∀ (code : BoundsCode) (z : Nat → Nat × Nat × Nat), (match lo.map a.eval with | some v => (do let l ← Instr.sliceBound v h code; pure (z l)) | none => (do let l ← pure 0; pure (z l)) : Sem (Nat × Nat × Nat)).run P w = .ok (z l) w := by
        intro code z
        cases lo with
        | none => simp only [compXo, Option.some.injEq] at h1; subst h1; simp at el; subst el; rfl
        | some x =>
          cases hc : compX x with
          | none => simp [compXo, hc] at h1
          | some x' =>
            simp [compXo, hc] at h1; subst h1
            simp only [Option.map_some, Sem.run_bind, (run_sliceBound hA hc el (Nat.le_refl _)).1, Result.andThen_ok, Sem.run_pure]
      cases hi with
      | none =>
        simp only [compXo, Option.some.injEq] at h2; subst h2
        simp at eh; subst eh
        simp only [Instr.sliceBounds, Option.map_none, Sem.run_bind, Sem.run_pure, Result.andThen_ok]
        exact lowP _ fun l => (l, _, _)
      | some x =>
        cases hc : compX x with
        | none => simp [compXo, hc] at h2
        | some x' =>
          simp [compXo, hc] at h2; subst h2
          have := fun code => (run_sliceBound (P := P) (w := w) (code := code) hA hc eh hcap).1
          simp only [Instr.sliceBounds, Option.map_some, Sem.run_bind, Sem.run_pure, Result.andThen_ok, this]
          exact lowP _ fun l => (l, _, _)
end Go.Proofs.YtjfnhdiimibmiaaDoor.Sx

/- Operations that look at nothing but their operands: the rest, and the whole. -/
namespace Go.Proofs.YtjfnhdiimibmiaaDoor.Sx
variable {P : Program} {μ : Emb} {w : World} {A : Tm} {a : Act} {v : AV}

theorem extract_str (s : ByteArray) (l h : Nat) : (s.extract l h).data.toList = (s.data.toList.take h).drop l := by
  rw [ByteArray.data_extract, Array.toList_extract, List.extract_eq_take_drop, List.drop_take]

theorem y_slS {o : Oper} {t : TypeId} {x : Operand} {x' : SX} {lo hi : Option Operand} {lo' hi' : Option SX} (hop : o.op = .slice t x lo hi none) (ht : P.underlying t = some .string) (hA : TmR μ A a.tmps)
    (hx : compX x = some x') (h1 : compXo lo = some lo') (h2 : compXo hi = some hi') (hv : evP A (.slS x' lo' hi') = some v) : Yields P μ a o v w := by
  have rx := evX_VR (μ := μ) hA hx
  simp only [evP] at hv
  split at hv
  · rename_i s e
    rw [e] at rx
    cases hxv : a.eval x <;> rw [hxv] at rx <;> cases rx
    rename_i s
    split at hv
    · rename_i l h m hb
      cases hv
      have hr := run_bounds (P := P) (w := w) (b := false) (len' := s.size) (cap' := s.size) (mx := none) hA h1 h2 rfl hb (by simp) (.inl (by simp))
      refine ⟨.string (s.extract l h), ?_, by rw [← extract_str]; exact .str _⟩
      simp only [Option.map_none] at hr
      simp only [execOp, hop, hxv, Instr.sliceAt, Instr.slice, Sem.run_bind, run_underlying ht, Result.andThen_ok, Option.map_none, Option.isSome_none, Bool.false_eq_true, if_false, hr, Sem.run_pure]
    · cases hv
  · cases hv

theorem y_sl {o : Oper} {t e : TypeId} {es : Nat} {x : Operand} {x' : SX} {lo hi mx : Option Operand} {lo' hi' mx' : Option SX} (hop : o.op = .slice t x lo hi mx) (ht : P.underlying t = some (.slice e)) (hs : sizeT P e = some es) (hA : TmR μ A a.tmps)
    (hx : compX x = some x') (h1 : compXo lo = some lo') (h2 : compXo hi = some hi') (h3 : compXo mx = some mx') (hv : evP A (.sl es x' lo' hi' mx') = some v) : Yields P μ a o v w := by
  have rx := evX_VR (μ := μ) hA hx
  have hmx : mx'.isSome = mx.isSome := by
    cases mx with
    | none => simp only [compXo, Option.some.injEq] at h3; subst h3; rfl
    | some y => cases hc : compX y <;> simp [compXo, hc] at h3; subst h3; rfl
  have key : ∀ {b : Option Addr} {len cap l h m : Nat}, a.eval x = .slice b len cap → (Instr.sliceBounds true len cap (lo.map a.eval) (hi.map a.eval) (mx.map a.eval)).run P w = .ok (l, h, m) w →
      (execOp a.eval o).run P w = .ok (.value (.slice (if m = l then b else b.map (·.add (l * es))) (h - l) (m - l))) w := by
    intro b len cap l h m he hr
    simp only [execOp, hop, he, Instr.sliceAt, Instr.slice, Sem.run_bind, run_underlying ht, Result.andThen_ok, hr, run_sizeT hs, Sem.run_pure]
  simp only [evP] at hv
  generalize evX A x' = xv at rx hv
  generalize hxv : a.eval x = xr at rx
  cases rx <;> simp only [cutAV] at hv <;> try (cases hv; done)
  · split at hv
    · rename_i l h m hb
      cases hv
      have hr := run_bounds (P := P) (w := w) (b := true) hA h1 h2 h3 hb rfl (.inl rfl)
      refine ⟨_, key hxv hr, ?_⟩
      split <;> exact .slN _ _
    · cases hv
  · rename_i d d' len cap c' hd hcap
    cases cap with
    | exact c =>
      have hc : c' = c := hcap
      subst hc
      simp only at hv
      split at hv
      · rename_i l h m hb
        cases hv
        have hr := run_bounds (P := P) (w := w) (b := true) hA h1 h2 h3 hb rfl (.inl rfl)
        refine ⟨_, key hxv hr, ?_⟩
        split
        · exact .sl hd rfl
        · exact .sl (hd.add (l * es)) rfl
      · cases hv
    | opn e' =>
      obtain ⟨i, hi1, hi2, hi3⟩ := hcap
      simp only at hv
      cases mx with
      | none =>
        simp only [compXo, Option.some.injEq] at h3; subst h3
        simp only at hv
        split at hv
        · rename_i ees
          subst ees
          split at hv
          · rename_i l h hb
            have hle := boundsO_le hb
            have hr := run_boundsO (P := P) (w := w) (b := true) hA h1 h2 hb hi3
            have hk := key hxv (by simpa using hr)
            split at hv
            · rename_i hl0
              subst hl0
              cases hv
              refine ⟨_, hk, ?_⟩
              have : (if c' = 0 then some d' else (some d').map (·.add (0 * e'))) = some d' := by
                split
                · rfl
                · simp [Addr.add]
              rw [this]
              exact .sl hd ⟨i, hi1, hi2, by omega⟩
            · split at hv
              · rename_i hl0 hll
                cases hv
                refine ⟨_, hk, ?_⟩
                rw [if_neg (by omega)]
                refine .sl (hd.add (l * e')) ⟨i, hi1, ?_, by omega⟩
                show d.off + l * e' + (c' - l) * e' = _
                rw [← hi2, Nat.add_assoc, ← Nat.add_mul]
                congr 2
                omega
              · cases hv
                refine ⟨_, hk, ?_⟩
                rw [show h - l = 0 from by omega]
                have : ∃ q, (if c' = l then some d' else (some d').map (·.add (l * e'))) = some q := by
                  split
                  · exact ⟨_, rfl⟩
                  · exact ⟨_, rfl⟩
                obtain ⟨q, hq⟩ := this
                by_cases hcl : c' = l
                · rw [hq]
                  exact .fin _ _ (.inl (by omega))
                · rw [if_neg hcl]
                  refine .fin _ _ (.inr ⟨hd.add (l * e'), i, hi1, ?_, Nat.zero_le _⟩)
                  show d.off + l * e' + (c' - l) * e' = _
                  rw [← hi2, Nat.add_assoc, ← Nat.add_mul]
                  congr 2
                  omega
          · cases hv
        · cases hv
      | some y =>
        obtain ⟨y', rfl⟩ : ∃ y', mx' = some y' := by cases mx' <;> simp at hmx; exact ⟨_, rfl⟩
        simp only at hv
        split at hv
        · rename_i l h m hb
          cases hv
          have hr := run_bounds (P := P) (w := w) (b := true) (cap' := c') hA h1 h2 h3 hb rfl (.inr ⟨hi3, rfl⟩)
          refine ⟨_, key hxv hr, ?_⟩
          split
          · exact .sl hd rfl
          · exact .sl (hd.add (l * es)) rfl
        · cases hv
  · rename_i d' c'
    cases mx with
    | none =>
      simp only [compXo, Option.some.injEq] at h3; subst h3
      simp only at hv
      split at hv
      · rename_i q hb
        obtain ⟨l, h⟩ := q
        have hle := boundsO_le hb
        have hr := run_boundsO (P := P) (w := w) (b := true) hA h1 h2 hb (Nat.zero_le c')
        have hk := key hxv (by simpa using hr)
        cases hv
        refine ⟨_, hk, ?_⟩
        rw [show h - l = 0 from by omega]
        have : ∃ q, (if c' = l then some d' else (some d').map (·.add (l * es))) = some q := by
          split
          · exact ⟨_, rfl⟩
          · exact ⟨_, rfl⟩
        obtain ⟨q, hq⟩ := this
        rw [hq]
        exact .emp _ _
      · cases hv
    | some y =>
      obtain ⟨y', rfl⟩ : ∃ y', mx' = some y' := by cases mx' <;> simp at hmx; exact ⟨_, rfl⟩
      simp at hv
  · rename_i ad ee d' c' hf
    cases mx with
    | none =>
      simp only [compXo, Option.some.injEq] at h3; subst h3
      simp only at hv
      split at hv
      · rename_i q hb
        obtain ⟨l, h⟩ := q
        have hle := boundsO_le hb
        have hr := run_boundsO (P := P) (w := w) (b := true) hA h1 h2 hb (Nat.zero_le c')
        have hk := key hxv (by simpa using hr)
        cases hv
        refine ⟨_, hk, ?_⟩
        have hh0 : h = 0 := by omega
        have hl0 : l = 0 := by omega
        subst hh0 hl0
        have : (if c' = 0 then some d' else (some d').map (·.add (0 * es))) = some d' := by
          split
          · rfl
          · simp [Addr.add]
        rw [this]
        exact .fin _ _ hf
      · cases hv
    | some y =>
      obtain ⟨y', rfl⟩ : ∃ y', mx' = some y' := by cases mx' <;> simp at hmx; exact ⟨_, rfl⟩
      simp at hv

theorem y_slA {o : Oper} {t : TypeId} {es n : Nat} {x : Operand} {x' : SX} {lo hi mx : Option Operand} {lo' hi' mx' : Option SX} (hop : o.op = .slice t x lo hi mx)
    (ht : (∃ e, P.underlying t = some (.array n e) ∧ sizeT P e = some es) ∨ (∃ u e, P.underlying t = some (.pointer u) ∧ P.underlying u = some (.array n e) ∧ sizeT P e = some es)) (hA : TmR μ A a.tmps)
    (hx : compX x = some x') (h1 : compXo lo = some lo') (h2 : compXo hi = some hi') (h3 : compXo mx = some mx') (hv : evP A (.slA n es x' lo' hi' mx') = some v) : Yields P μ a o v w := by
  have rx := evX_VR (μ := μ) hA hx
  simp only [evP] at hv
  split at hv
  · rename_i d e
    rw [e] at rx
    cases hxv : a.eval x <;> rw [hxv] at rx <;> cases rx
    rename_i d' hd
    split at hv
    · rename_i l h m hb
      cases hv
      have hr := run_bounds (P := P) (w := w) (b := false) hA h1 h2 h3 hb rfl (.inl rfl)
      have hval : VR μ (.sl (some (if m = l then d else ⟨d.rf, d.off + l * es⟩)) (h - l) (.exact (m - l))) (.slice (some (if m = l then d' else d'.add (l * es))) (h - l) (m - l)) := by
        split
        · exact .sl hd rfl
        · exact .sl (hd.add (l * es)) rfl
      rcases ht with ⟨e, ht, hs⟩ | ⟨u, e, ht, hu, hs⟩
      · refine ⟨_, ?_, hval⟩
        simp only [execOp, hop, hxv, Instr.sliceAt, Sem.run_bind, run_underlying ht, Result.andThen_ok, Instr.sureAddr, hr, run_sizeT hs, Sem.run_pure]
      · refine ⟨_, ?_, hval⟩
        simp only [execOp, hop, hxv, Instr.sliceAt, Instr.slice, Sem.run_bind, run_underlying ht, Result.andThen_ok, asAddr, run_underlying hu, hr, run_sizeT hs, Sem.run_pure]
    · cases hv
  · cases hv

theorem run_builtin {o : Oper} {b : Builtin} {c : Call} (hop : o.op = .call c) (hb : c.callee = .builtin b) : (execOp a.eval o) = builtin b c.argTypes o.type (c.args.map fun | .const _ => true | _ => false) (c.args.map a.eval) := by
  simp only [execOp, hop, resolve, hb]
  rfl

theorem getX_args {c : Call} {l : List SX} (h : compXs c.args = some l) (hA : TmR μ A a.tmps) {i : Nat} {x : SX} (hi : l[i]? = some x) : ∃ v', (c.args.map a.eval)[i]? = some v' ∧ VR μ (evX A x) v' := by
  have := (evXs_VR (μ := μ) hA h).get (i := i) (v := evX A x) (by simp [hi])
  simpa using this

theorem y_lenS {o : Oper} {c : Call} {t : TypeId} {x' : SX} (hop : o.op = .call c) (hb : c.callee = .builtin .len) (h0 : c.argTypes[0]? = some t) (ht : P.underlying t = some .string) (hx : compXs c.args = some [x'])
    (hA : TmR μ A a.tmps) (hv : evP A (.lenS x') = some v) : Yields P μ a o v w := by
  obtain ⟨r, hr, rx⟩ := getX_args (μ := μ) hx hA (i := 0) rfl
  unfold Yields
  rw [run_builtin hop hb]
  simp only [evP] at hv
  generalize evX A x' = xv at rx hv
  cases rx <;> simp at hv
  rename_i s
  subst hv
  refine ⟨.int .i64 s.size, ?_, by simpa using VR.int _ _⟩
  simp only [builtin, Builtin.len_, h0, hr, Sem.run_bind, run_underlying ht, Result.andThen_ok, goInt, Sem.run_pure]

theorem y_len {o : Oper} {c : Call} {t e : TypeId} {x' : SX} (hop : o.op = .call c) (hb : c.callee = .builtin .len) (h0 : c.argTypes[0]? = some t) (ht : P.underlying t = some (.slice e)) (hx : compXs c.args = some [x'])
    (hA : TmR μ A a.tmps) (hv : evP A (.len x') = some v) : Yields P μ a o v w := by
  obtain ⟨r, hr, rx⟩ := getX_args (μ := μ) hx hA (i := 0) rfl
  unfold Yields
  rw [run_builtin hop hb]
  simp only [evP] at hv
  generalize evX A x' = xv at rx hv
  have key : ∀ (b : Option Addr) (n c' : Nat), r = .slice b n c' → (builtin .len c.argTypes o.type (c.args.map fun | .const _ => true | _ => false) (c.args.map a.eval)).run P w = .ok (.value (.int .i64 n)) w := by
    intro b n c' e
    simp only [builtin, Builtin.len_, h0, hr, e, Sem.run_bind, run_underlying ht, Result.andThen_ok, goInt, Sem.run_pure]
  cases rx <;> simp at hv <;> subst hv
  · exact ⟨_, key _ _ _ rfl, .int _ _⟩
  · exact ⟨_, key _ _ _ rfl, .int _ _⟩
  · exact ⟨_, key _ _ _ rfl, by simpa using VR.int _ _⟩
  · exact ⟨_, key _ _ _ rfl, by simpa using VR.int _ _⟩

theorem y_lenK {o : Oper} {c : Call} {t : TypeId} {n : Nat} {x' : SX} (hop : o.op = .call c) (hb : c.callee = .builtin .len) (h0 : c.argTypes[0]? = some t)
    (ht : (∃ e, P.underlying t = some (.array n e)) ∨ (∃ u e, P.underlying t = some (.pointer u) ∧ P.underlying u = some (.array n e))) (hx : compXs c.args = some [x']) (hA : TmR μ A a.tmps) : Yields P μ a o (.int .i64 n) w := by
  obtain ⟨r, hr, rx⟩ := getX_args (μ := μ) hx hA (i := 0) rfl
  unfold Yields
  rw [run_builtin hop hb]
  refine ⟨.int .i64 n, ?_, .int _ _⟩
  rcases ht with ⟨e, ht⟩ | ⟨u, e, ht, hu⟩
  · simp only [builtin, Builtin.len_, h0, hr, Sem.run_bind, run_underlying ht, Result.andThen_ok, goInt, Sem.run_pure]
  · simp only [builtin, Builtin.len_, h0, hr, Sem.run_bind, run_underlying ht, Result.andThen_ok, run_underlying hu, goInt, Sem.run_pure]

theorem y_cap {o : Oper} {c : Call} {t e : TypeId} {x' : SX} (hop : o.op = .call c) (hb : c.callee = .builtin .cap) (h0 : c.argTypes[0]? = some t) (ht : P.underlying t = some (.slice e)) (hx : compXs c.args = some [x'])
    (hA : TmR μ A a.tmps) (hv : evP A (.cap x') = some v) : Yields P μ a o v w := by
  obtain ⟨r, hr, rx⟩ := getX_args (μ := μ) hx hA (i := 0) rfl
  unfold Yields
  rw [run_builtin hop hb]
  simp only [evP] at hv
  generalize evX A x' = xv at rx hv
  have key : ∀ (b : Option Addr) (n c' : Nat), r = .slice b n c' → (builtin .cap c.argTypes o.type (c.args.map fun | .const _ => true | _ => false) (c.args.map a.eval)).run P w = .ok (.value (.int .i64 c')) w := by
    intro b n c' e
    simp only [builtin, Builtin.cap_, h0, hr, e, Sem.run_bind, run_underlying ht, Result.andThen_ok, goInt, Sem.run_pure]
  split at hv
  · cases hv
    cases rx
    · exact ⟨_, key _ _ _ rfl, .int _ _⟩
    · rename_i hc
      have : _ = _ := hc
      subst this
      exact ⟨_, key _ _ _ rfl, .int _ _⟩
  · cases hv

theorem mmL_int {isMax : Bool} {k : IntKind} {n : Int} : ∀ {l : List AV} {l' : List Value} {v : AV}, VRL μ l l' → mmL isMax (.int k n) l = some v →
    ∃ v', (l'.foldlM (if isMax then Builtin.max2 else Builtin.min2) (.int k n)).run P w = .ok v' w ∧ VR μ v v' := by
  intro l
  induction l generalizing n with
  | nil => intro l' v hl h; cases hl; simp [mmL] at h; subst h; exact ⟨_, by simp, .int _ _⟩
  | cons x l ih =>
    intro l' v hl h
    cases hl with
    | cons hx hl =>
      simp only [mmL] at h
      cases hx <;> simp [mm2] at h
      rename_i k' m
      obtain ⟨v', h1, h2⟩ := ih hl h
      refine ⟨v', ?_, h2⟩
      cases isMax <;> simp only [Bool.false_eq_true, if_false, if_true] at h1 ⊢ <;> simp only [List.foldlM_cons, Builtin.max2, Builtin.min2, Sem.run_bind, Sem.run_pure, Result.andThen_ok] <;> exact h1

theorem y_mm {o : Oper} {c : Call} {isMax : Bool} {x' : SX} {r' : List SX} (hop : o.op = .call c) (hb : c.callee = .builtin (if isMax then .max else .min)) (hx : compXs c.args = some (x' :: r'))
    (hA : TmR μ A a.tmps) (hv : evP A (.mm isMax x' r') = some v) : Yields P μ a o v w := by
  have hxs := evXs_VR (μ := μ) hA hx
  unfold Yields
  rw [run_builtin hop hb]
  simp only [evP] at hv
  simp only [List.map_cons] at hxs
  generalize evX A x' = xv at hxs hv
  generalize hargs : (c.args.map a.eval).toList = args at hxs
  cases hxs with
  | cons h1 h2 =>
    rename_i v1 args'
    cases h1 <;> try (simp at hv; done)
    case int k n =>
      obtain ⟨v', e1, e2⟩ := mmL_int (P := P) (w := w) h2 hv
      refine ⟨v', ?_, e2⟩
      cases isMax <;> simp only [Bool.false_eq_true, if_false, if_true] at e1 ⊢ <;> simp only [builtin, Builtin.max_, Builtin.min_, hargs, Sem.run_bind, e1, Result.andThen_ok, Sem.run_pure]

theorem y_toArr {o : Oper} {t e : TypeId} {n : Nat} {x : Operand} {x' : SX} (hop : o.op = .sliceToArrayPointer t x) (ht : P.underlying t = some (.array n e)) (hA : TmR μ A a.tmps) (hx : compX x = some x') (hv : evP A (.toArr n x') = some v) : Yields P μ a o v w := by
  have rx := evX_VR (μ := μ) hA hx
  simp only [evP] at hv
  split at hv
  · rename_i d len cap e1
    rw [e1] at rx
    cases hxv : a.eval x <;> rw [hxv] at rx <;> cases rx
    rename_i h hc
    split at hv
    · rename_i hb
      cases hv
      refine ⟨_, ?_, .ptr h⟩
      simp only [execOp, hop, hxv, Instr.arrayAt, Sem.run_bind, Sem.run_pure, Result.andThen_ok, run_underlying ht]
      rw [if_neg (by omega)]; rfl
    · cases hv
  · cases hv

theorem y_assertT {o : Oper} {t xt : TypeId} {d : TypeDesc} {z : AV} {ok : Bool} {x : Operand} {x' : SX} (hop : o.op = .typeAssert x xt t ok) (ht : P.underlying t = some d) (hd : ∀ ms, d ≠ .interface ms) (hz : zeroV P t = some z) (hA : TmR μ A a.tmps)
    (hx : compX x = some x') (hv : evP A (.assertT t ok z x') = some v) : Yields P μ a o v w := by
  have rx := evX_VR (μ := μ) hA hx
  obtain ⟨z', hz1, hz2, _⟩ := run_zeroV hz
  have hzr : VR μ z z' := constAV_VR μ _ _ _ hz2
  simp only [evP] at hv
  have key : ∀ (r : Value) (R : Value), a.eval x = r → (Instr.typeAssert r xt t ok).run P w = .ok R w → (execOp a.eval o).run P w = .ok (.value R) w := by
    intro r R h1 h2
    simp only [execOp, hop, h1, Sem.run_bind, h2, Result.andThen_ok, Sem.run_pure]
  generalize evX A x' = xv at rx hv
  generalize hxv : a.eval x = xr at rx
  cases rx <;> simp only at hv <;> try (cases hv; done)
  · rename_i u v1 v1' hvr
    by_cases hu : u = t
    · rw [if_pos hu] at hv
      subst hu
      cases ok with
      | true =>
        cases hv
        refine ⟨.tuple #[v1', .bool true], key _ _ hxv ?_, .tup (.cons hvr (.cons (.bool _) .nil))⟩
        simp only [Instr.typeAssert, Sem.run_bind, run_underlying ht, Result.andThen_ok]
        cases d <;> first | (simp; done) | exact absurd rfl (hd _)
      | false =>
        cases hv
        refine ⟨v1', key _ _ hxv ?_, hvr⟩
        simp only [Instr.typeAssert, Sem.run_bind, run_underlying ht, Result.andThen_ok]
        cases d <;> first | (simp; done) | exact absurd rfl (hd _)
    · rw [if_neg hu] at hv
      cases ok with
      | true =>
        cases hv
        refine ⟨.tuple #[z', .bool false], key _ _ hxv ?_, .tup (.cons hzr (.cons (.bool _) .nil))⟩
        simp only [Instr.typeAssert, Sem.run_bind, run_underlying ht, Result.andThen_ok]
        cases d <;> first | (simp [hu, hz1]; done) | exact absurd rfl (hd _)
      | false => cases hv
  · cases ok with
    | true =>
      cases hv
      refine ⟨.tuple #[z', .bool false], key _ _ hxv ?_, .tup (.cons hzr (.cons (.bool _) .nil))⟩
      simp only [Instr.typeAssert, Sem.run_bind, run_underlying ht, Result.andThen_ok]
      cases d <;> first | (simp [hz1]; done) | exact absurd rfl (hd _)
    | false => cases hv

/-! ### Structs and arrays built -/
theorem compParts_spec {place : Nat → Option (Nat × Nat)} {ps : Array (Nat × Operand)} {l : List (Nat × Nat × SX)} (h : compParts place ps = some l) (hA : TmR μ A a.tmps) :
    ((l.map fun (o, s, x) => (o, s, evX A x)) : List (Nat × Nat × AV)).length = ((ps.map fun (i, x) => (i, a.eval x)).toList).length ∧
    ∀ (i : Nat) s p, (l.map fun (o, s, x) => (o, s, evX A x) : List (Nat × Nat × AV))[i]? = some s → ((ps.map fun (i, x) => (i, a.eval x)).toList)[i]? = some p → place p.1 = some (s.1, s.2.1) ∧ VR μ s.2.2 p.2 := by
  obtain ⟨h1, h2⟩ := mapM_some h
  refine ⟨by simp [h1], fun i s p hs hp => ?_⟩
  simp only [List.getElem?_map, Option.map_eq_some_iff] at hs
  simp only [Array.toList_map, List.getElem?_map, Option.map_eq_some_iff] at hp
  obtain ⟨q, hq, rfl⟩ := hp
  obtain ⟨y, hy, rfl⟩ := hs
  obtain ⟨y', hy', hc⟩ := h2 i q hq
  rw [hy] at hy'
  cases hy'
  obtain ⟨j, x⟩ := q
  simp only at hc
  split at hc
  · rename_i e1 e2
    cases hc
    exact ⟨e1, evX_VR hA e2⟩
  · cases hc

theorem run_fields {fs : Array Field} {l : List (Nat × Nat)} (h : (fs.toList.mapM fun f => (sizeT P f.type).map fun s => (f.offset, s)) = some l) : (fs.mapM fun f => (do pure (f.offset, ← sizeOf f.type) : Sem (Nat × Nat))).run P w = .ok l.toArray w := by
  rw [Array.mapM_eq_mapM_toList]
  simp only [Sem.run_map]
  have key : ∀ (fl : List Field) (l : List (Nat × Nat)), (fl.mapM fun f => (sizeT P f.type).map fun s => (f.offset, s)) = some l → (fl.mapM fun f => (do pure (f.offset, ← sizeOf f.type) : Sem (Nat × Nat))).run P w = .ok l w := by
    intro fl
    induction fl with
    | nil => intro l h; simp at h; subst h; simp
    | cons f fl ih =>
      intro l h
      rw [List.mapM_cons] at h
      cases hs : sizeT P f.type with
      | none => simp [hs] at h
      | some s =>
        cases hl : fl.mapM (fun f => (sizeT P f.type).map fun s => (f.offset, s)) with
        | none => simp [hs, hl] at h
        | some l' =>
          simp [hs, hl] at h
          subst h
          rw [List.mapM_cons]
          simp only [Sem.run_bind, run_sizeT hs, Result.andThen_ok, Sem.run_pure, ih _ hl]
  rw [key _ _ h]
  rfl

theorem y_build {o : Oper} {t : TypeId} {ps : Array (Nat × Operand)} {z : List AV} {pl : Nat → Option (Nat × Nat)} {l : List (Nat × Nat × SX)} (hop : o.op = .build t ps) (hz : zeroL P t = some z) (hpl : placesOf P t = some pl) (hl : compParts pl ps = some l)
    (hA : TmR μ A a.tmps) (hv : evP A (.build z l) = some v) : Yields P μ a o v w := by
  simp only [evP] at hv
  cases hf : fill z (l.map fun (o, s, x) => (o, s, evX A x)) with
  | none => simp [hf] at hv
  | some ys =>
    simp [hf] at hv
    subst hv
    unfold zeroL at hz
    cases hzv : zeroV P t with
    | none => simp [hzv] at hz
    | some zv =>
      simp [hzv] at hz
      obtain ⟨z', hz1, hz2, _⟩ := run_zeroV hzv
      have hzr : VR μ zv z' := constAV_VR μ _ _ _ hz2
      have hne : noUnk zv = true := by
        cases zv <;> first | rfl | skip
        -- a constant is never unknown
        exfalso
        have : ∀ n v, constAV n v ≠ some .unk := by
          intro n v h
          cases n with
          | zero => simp [constAV] at h
          | succ n => unfold constAV at h; split at h <;> simp at h
        exact this _ _ hz2
      have hcells : VRL μ z z'.cells.toList := by rw [← hz]; exact hzr.cells hne
      obtain ⟨g1, g2⟩ := compParts_spec (A := A) (a := a) (μ := μ) hl hA
      obtain ⟨cs', hc1, hc2⟩ := fill_VRL pl ((ps.map fun (i, x) => (i, a.eval x)).toList) _ z'.cells z ys hcells hf g1 g2
      refine ⟨.agg cs', ?_, .agg hc2⟩
      unfold placesOf at hpl
      split at hpl
      · rename_i fs hu
        split at hpl
        · rename_i fl hfl
          cases hpl
          have hpl' : (fun (i : Nat) => (fl.toArray)[i]?) = (fun (i : Nat) => fl[i]?) := by funext i; simp
          simp only [execOp, hop, Instr.build, Sem.run_bind, hz1, Result.andThen_ok, run_underlying hu, run_fields hfl, hpl', hc1, Sem.run_pure]
        · cases hpl
      · rename_i n e hu
        split at hpl
        · rename_i s hse
          cases hpl
          simp only [execOp, hop, Instr.build, Sem.run_bind, hz1, Result.andThen_ok, run_underlying hu, run_sizeT hse, hc1, Sem.run_pure]
        · cases hpl
      · cases hpl
end Go.Proofs.YtjfnhdiimibmiaaDoor.Sx

/- Operations that look at nothing but their operands: whatever the second reading answers, the run of the model answers. -/
namespace Go.Proofs.YtjfnhdiimibmiaaDoor.Sx
variable {P : Program} {μ : Emb} {w : World} {A : Tm} {a : Act} {v : AV}

theorem map_some {α β : Type} {f : α → β} {x : Option α} {y : β} (h : x.map f = some y) : ∃ z, x = some z ∧ f z = y := by
  cases x <;> simp at h
  exact ⟨_, rfl, h⟩

theorem evP_run {o : Oper} {pk : PK} (h : compK P o = some (.p pk)) (hA : TmR μ A a.tmps) (hv : evP A pk = some v) : Yields P μ a o v w := by
  unfold compK at h
  split at h
  · -- move
    rename_i x hop
    obtain ⟨x', hx, e⟩ := map_some h
    cases e
    cases hv
    exact ⟨_, by simp [execOp, hop], evX_VR hA hx⟩
  · rename_i x hop
    obtain ⟨x', hx, e⟩ := map_some h
    cases e
    cases hv
    exact ⟨_, by simp [execOp, hop], evX_VR hA hx⟩
  · rename_i c x y hop
    split at h
    · cases h; exact y_pick hop hA ‹_› ‹_› ‹_› hv
    · cases h
  · split at h <;> cases h
  · obtain ⟨x', hx, e⟩ := map_some h; cases e
  · rename_i t ps hop
    split at h
    · split at h
      · split at h
        · cases h; exact y_build hop ‹_› ‹_› ‹_› hA hv
        · cases h
      · cases h
    · cases h
  · split at h
    · split at h
      · split at h
        · split at h <;> cases h
        · cases h
      · cases h
    · cases h
  · split at h <;> cases h
  · split at h <;> cases h
  · rename_i x hop
    obtain ⟨x', hx, e⟩ := map_some h
    cases e
    exact y_nilc hop hA hx hv
  · -- binOp
    rename_i op t x y yt hop
    split at h
    · rename_i x' y' hx hy
      have rx := evX_VR (μ := μ) hA hx
      have ry := evX_VR (μ := μ) hA hy
      have hbin : ∀ {r : AV}, pk = .bin op x' y' → evP A pk = some r → Yields P μ a o r w := by
        intro r e hr
        subst e
        obtain ⟨r', h1, h2⟩ := run_bin (P := P) (w := w) (t := t) (x := x) (y := y) rx ry (by simpa [evP] using hr)
        exact ⟨r', by simp only [execOp, hop]; rw [Sem.run_bind, h1]; rfl, h2⟩
      split at h
      · cases h; exact hbin rfl hv
      · cases h; exact hbin rfl hv
      · split at h
        · rename_i kd hkd
          cases h
          simp only [evP] at hv
          obtain ⟨b, hb, e⟩ := map_some hv
          subst e
          have := (run_eqV (P := P) (w := w) hkd rx ry hb).1
          exact ⟨_, by simp only [execOp, hop]; rw [Sem.run_bind, this]; rfl, .bool _⟩
        · rename_i kd hkd
          cases h
          simp only [evP] at hv
          obtain ⟨b, hb, e⟩ := map_some hv
          subst e
          have := (run_eqV (P := P) (w := w) hkd rx ry hb).2
          exact ⟨_, by simp only [execOp, hop]; rw [Sem.run_bind, this]; rfl, .bool _⟩
        · cases h
    · cases h
  · rename_i op t x hop
    obtain ⟨x', hx, e⟩ := map_some h
    cases e
    exact y_un hop hA hx hv
  · rename_i s d x hop
    split at h
    · cases h; exact y_conv hop ‹_› ‹_› hA ‹_› hv
    · cases h; exact y_convS hop ‹_› ‹_› hA ‹_› hv
    · split at h <;> cases h
    · split at h <;> cases h
    · cases h
  · rename_i t x hop
    split at h
    · cases h
    · rename_i d x' hne hd hx
      cases h
      exact y_iface hop hd (fun ms e => hne ms e) hA hx hv
    · cases h
  · rename_i f x y hop
    split at h
    · cases h; exact y_mkfn hop hA ‹_› ‹_› hv
    · cases h
  · cases h
  · split at h
    · split at h <;> cases h
    · cases h
  · rename_i t x lo hi mx hop
    split at h
    · rename_i x' lo' hi' mx' hx h1 h2 h3
      split at h
      · split at h
        · rename_i hm
          cases h
          have : mx = none := by
            cases mx with
            | none => rfl
            | some y => cases hc : compX y <;> simp [compXo, hc] at h3; subst h3; simp at hm
          subst this
          exact y_slS hop ‹_› hA hx h1 h2 hv
        · cases h
      · obtain ⟨s, hs, e⟩ := map_some h
        cases e
        exact y_sl hop ‹_› hs hA hx h1 h2 h3 hv
      · obtain ⟨s, hs, e⟩ := map_some h
        cases e
        exact y_slA hop (.inl ⟨_, ‹_›, hs⟩) hA hx h1 h2 h3 hv
      · split at h
        · obtain ⟨s, hs, e⟩ := map_some h
          cases e
          exact y_slA hop (.inr ⟨_, _, ‹_›, ‹_›, hs⟩) hA hx h1 h2 h3 hv
        · cases h
      · cases h
    · cases h
  · rename_i t x i hop
    split at h
    · split at h
      · split at h
        · cases h; exact y_faddr hop ‹_› ‹_› ‹_› hA ‹_› hv
        · cases h
      · cases h
    · cases h
  · rename_i t x i hop
    split at h
    · split at h
      · obtain ⟨n, hn, e⟩ := map_some h
        cases e
        exact y_field hop ‹_› ‹_› hn hA ‹_› hv
      · cases h
    · cases h
  · rename_i t x i hop
    split at h
    · obtain ⟨n, hn, e⟩ := map_some h
      cases e
      exact y_iaddr hop ‹_› hn hA ‹_› ‹_› hv
    · obtain ⟨n, hn, e⟩ := map_some h
      cases e
      exact y_iaddrA hop ‹_› hn hA ‹_› ‹_› hv
    · cases h
  · rename_i t x i hop
    split at h
    · split at h
      · cases h
        exact y_indexA hop ‹_› ‹_› ‹_› hA ‹_› ‹_› hv
      · cases h
    · cases h
      exact y_indexS hop ‹_› hA ‹_› ‹_› hv
    · cases h
  · split at h
    · split at h <;> cases h
    · cases h
  · split at h
    · obtain ⟨n, hn, e⟩ := map_some h; cases e
    · cases h
  · rename_i x i hop
    obtain ⟨x', hx, e⟩ := map_some h
    cases e
    exact y_ext hop hA hx hv
  · -- call
    rename_i c hop
    split at h
    · obtain ⟨n, hn, e⟩ := map_some h; cases e
    · split at h <;> cases h
    · rename_i hb
      split at h
      · rename_i t x' h0 hx
        split at h
        · cases h; exact y_lenS hop hb h0 ‹_› hx hA hv
        · cases h; exact y_len hop hb h0 ‹_› hx hA hv
        · cases h
          simp only [evP, Option.some.injEq] at hv
          subst hv
          exact y_lenK hop hb h0 (.inl ⟨_, ‹_›⟩) hx hA
        · split at h
          · cases h
            simp only [evP, Option.some.injEq] at hv
            subst hv
            exact y_lenK hop hb h0 (.inr ⟨_, _, ‹_›, ‹_›⟩) hx hA
          · cases h
        · cases h
        · cases h
      · cases h
    · rename_i hb
      split at h
      · rename_i t x' h0 hx
        split at h
        · cases h; exact y_cap hop hb h0 ‹_› hx hA hv
        · cases h
      · cases h
    · rename_i hb
      split at h
      · rename_i x' r' hx
        cases h
        exact y_mm (isMax := false) hop (by simpa using hb) hx hA hv
      · cases h
    · rename_i hb
      split at h
      · rename_i x' r' hx
        cases h
        exact y_mm (isMax := true) hop (by simpa using hb) hx hA hv
      · cases h
    · split at h
      · split at h
        · split at h
          · split at h
            · split at h <;> cases h
            · split at h <;> cases h
            · split at h <;> cases h
            · cases h
          · cases h
        · cases h
      · cases h
    · split at h
      · split at h
        · obtain ⟨n, hn, e⟩ := map_some h; cases e
        · cases h
      · cases h
    · split at h
      · split at h
        · obtain ⟨n, hn, e⟩ := map_some h; cases e
        · cases h
      · cases h
    · cases h
  · rename_i t x hop
    split at h
    · cases h; exact y_toArr hop ‹_› hA ‹_› hv
    · cases h
  · rename_i x xt t ok hop
    split at h
    · cases h
    · rename_i d z x' hne hd hz hx
      cases h
      exact y_assertT hop hd (fun ms e => hne ms e) hz hA hx hv
    · cases h
  · cases h
end Go.Proofs.YtjfnhdiimibmiaaDoor.Sx

/- Memory: how the second reading's heap stands to the model's. -/
namespace Go.Proofs.YtjfnhdiimibmiaaDoor.Sx

/-- The cells of a block. -/
structure CR (μ : Emb) (s : Nat) (c : Cells) (rc : Array Value) : Prop where
  size : s + c.size ≤ rc.size
  get : ∀ j v, c.get j = some v → ∃ v', rc[s + j]? = some v' ∧ VR μ v v'
theorem CR.le {μ μ' : Emb} (h : μ.le μ') {s : Nat} {c : Cells} {rc : Array Value} (hc : CR μ s c rc) : CR μ' s c rc :=
  ⟨hc.size, fun j v hj => let ⟨v', h1, h2⟩ := hc.get j v hj; ⟨v', h1, h2.le h⟩⟩

/-- The entries of a map. -/
inductive ER (μ : Emb) : List (AV × AV) → List MapEntry → Prop
  | nil : ER μ [] []
  | cons {k v : AV} {e : MapEntry} {l : List (AV × AV)} {l' : List MapEntry} (hk : VR μ k e.key) (hv : VR μ v e.val) (hl : ER μ l l') : ER μ ((k, v) :: l) (e :: l')
theorem ER.le {μ μ' : Emb} (h : μ.le μ') {l : List (AV × AV)} {l' : List MapEntry} (hl : ER μ l l') : ER μ' l l' := by
  induction hl with
  | nil => exact .nil
  | cons hk hv _ ih => exact .cons (hk.le h) (hv.le h) ih
theorem ER.length {μ : Emb} {l : List (AV × AV)} {l' : List MapEntry} (hl : ER μ l l') : l'.length = l.length := by
  induction hl with
  | nil => rfl
  | cons _ _ _ ih => simp [ih]

/-- A jump that a round has left. -/
def JR : Option Lv → Option Code → Prop
  | none, none => True
  | some .ret, some .ret => True
  | some (.exit i), some (.exit j) => i = j
  | _, _ => False

/-- What is said of a loop's record is said by whoever compiles code ('comp'). -/
def OR (comp : Nat → Code → Option SC) (μ : Emb) (i : Nat) : AObj → Obj → Prop
  | .cells c t _, .cells rc t' fz => t' = t ∧ CR μ (μ.sh i) c rc ∧ μ.sh i + μ.siz i = rc.size ∧ ∀ o, o < rc.size → ¬ (fz.1 ≤ o ∧ o < fz.2)
  | .map es, .map res _ => ER μ es res.toList
  | .loop st pend tm ps asg body df, .loop L => L.state = st ∧ JR pend L.pending ∧ TmR μ tm L.tmps ∧ (L.params.toList = ps ∧ ∀ t ∈ ps, t < L.tmps.size) ∧ comp L.tmps.size L.assign = some asg ∧ comp L.tmps.size L.body = some body ∧ μ.blk df = some L.defers
  | .deferred b, .deferred ds => ds = if b then some [] else none
  | _, _ => False
theorem OR.le {comp : Nat → Code → Option SC} {μ μ' : Emb} (h : μ.le μ') {i r : Nat} (hi : μ.blk i = some r) {o : AObj} {O : Obj} (ho : OR comp μ i o O) : OR comp μ' i o O := by
  cases o <;> cases O <;> simp only [OR] at ho ⊢
  · exact ⟨ho.1, by rw [(h i r hi).2.2]; exact ho.2.1.le h, by rw [(h i r hi).2.1, (h i r hi).2.2]; exact ho.2.2.1, ho.2.2.2⟩
  · exact ho.le h
  · exact ⟨ho.1, ho.2.1, ho.2.2.1.le h, ho.2.2.2.1, ho.2.2.2.2.1, ho.2.2.2.2.2.1, (h _ _ ho.2.2.2.2.2.2).1⟩
  · exact ho

def AObj.line : AObj → Option Nat
  | .cells _ _ l => l
  | _ => none

/-- What holds of every heap of the second reading's own accord. -/
structure HWf (H : Heap) : Prop where
  root : ∀ j c t l, H.objs.get j = some (.cells c t (some l)) → (H.objs.get l).isSome = true
  clean : ∀ i, H.next ≤ i → H.objs.get i = none
theorem HWf.set {H : Heap} (h : HWf H) {i n : Nat} {o : AObj} {ls : Tr (Nat × Nat)} (hn : H.next ≤ n) (hi : i < n) (hl : ∀ l, o.line = some l → l = i ∨ (H.objs.get l).isSome = true) : HWf { next := n, objs := H.objs.set i o, lines := ls } := by
  refine ⟨fun j c t l hj => ?_, fun j hj => ?_⟩
  · simp only [Tr.get_set] at hj ⊢
    split at hj
    · cases hj
      rcases hl l rfl with e | e
      · rw [if_pos e]; rfl
      · split
        · rfl
        · exact e
    · split
      · rfl
      · exact h.root j c t l hj
  · have hj' : n ≤ j := hj
    simp only [Tr.get_set]
    rw [if_neg (by omega)]
    exact h.clean j (by omega)

/-- The second reading's heap stands for the model's world. W: the world in which the call began. -/
structure HR (comp : Nat → Code → Option SC) (W : World) (μ : Emb) (H : Heap) (w : World) : Prop where
  os : w.os = W.os
  tape : w.tape = W.tape
  output : w.output = W.output
  size : W.heap.size ≤ w.heap.size
  old : ∀ b, b < W.heap.size → w.heap[b]? = W.heap[b]?
  dom : ∀ i r, μ.blk i = some r → W.heap.size ≤ r ∧ r < w.heap.size
  fresh : ∀ i, H.next ≤ i → μ.blk i = none
  obj : ∀ i o, H.get i = some o → ∃ r O, μ.blk i = some r ∧ w.heap[r]? = some O ∧ OR comp μ i o O
  inj : ∀ i j r oi oj, H.get i = some oi → H.get j = some oj → μ.blk i = some r → μ.blk j = some r → i ≠ j → ∃ l, oi.line = some l ∧ oj.line = some l ∧ μ.sh i = μ.sh j
  tip : ∀ j o l, H.get j = some o → o.line = some l → ∃ fl tp, H.lines.get l = some (fl, tp) ∧ j ≤ tp
  root : ∀ j c t l, H.objs.get j = some (.cells c t (some l)) → (μ.blk l).isSome = true
  mono : ∀ j k cj tj ck tk l, H.get j = some (.cells cj tj (some l)) → H.get k = some (.cells ck tk (some l)) → j ≤ k → cj.size ≤ ck.size
  wf : HWf H

/-- What a piece of the run leaves alone, and what it adds. -/
structure Step0 (μ : Emb) (H : Heap) (w : World) (μ' : Emb) (H' : Heap) (w' : World) : Prop where
  le : μ.le μ'
  size : w.heap.size ≤ w'.heap.size
  unch : ∀ r, r < w.heap.size → (∀ i o, H.get i = some o → μ.blk i ≠ some r) → w'.heap[r]? = w.heap[r]?
  img : ∀ j o r, H'.get j = some o → μ'.blk j = some r → r < w.heap.size → ∃ i o', H.get i = some o' ∧ μ.blk i = some r

/-- And: what had a number, or was free of one, has it, or is free of it. -/
structure Step (μ : Emb) (H : Heap) (w : World) (μ' : Emb) (H' : Heap) (w' : World) : Prop extends Step0 μ H w μ' H' w' where
  nx : H.next ≤ H'.next
  keep : ∀ i, i < H.next → μ'.blk i = μ.blk i
  keepo : ∀ i, i < H.next → H.objs.get i = none → H'.objs.get i = none

theorem Step0.refl (μ : Emb) (H : Heap) (w : World) : Step0 μ H w μ H w := ⟨Emb.le_refl μ, Nat.le_refl _, fun _ _ _ => rfl, fun j o _ h1 h2 _ => ⟨j, o, h1, h2⟩⟩
theorem Step.refl (μ : Emb) (H : Heap) (w : World) : Step μ H w μ H w := ⟨Step0.refl μ H w, Nat.le_refl _, fun _ _ => rfl, fun _ _ h => h⟩
theorem Step0.trans {μ μ' μ'' : Emb} {H H' H'' : Heap} {w w' w'' : World} (h : Step0 μ H w μ' H' w') (k : Step0 μ' H' w' μ'' H'' w'') : Step0 μ H w μ'' H'' w'' := by
  refine ⟨Emb.le_trans h.le k.le, Nat.le_trans h.size k.size, fun r hr hn => ?_, fun j o r h1 h2 hr => ?_⟩
  · rw [k.unch r (Nat.lt_of_lt_of_le hr h.size) ?_, h.unch r hr hn]
    intro i o hi hb
    obtain ⟨i', o', h1, h2⟩ := h.img i o r hi hb hr
    exact hn i' o' h1 h2
  · obtain ⟨i', o', h3, h4⟩ := k.img j o r h1 h2 (Nat.lt_of_lt_of_le hr h.size)
    exact h.img i' o' r h3 h4 hr
theorem Step.trans {μ μ' μ'' : Emb} {H H' H'' : Heap} {w w' w'' : World} (h : Step μ H w μ' H' w') (k : Step μ' H' w' μ'' H'' w'') : Step μ H w μ'' H'' w'' :=
  ⟨h.toStep0.trans k.toStep0, Nat.le_trans h.nx k.nx, fun i hi => by rw [k.keep i (Nat.lt_of_lt_of_le hi h.nx), h.keep i hi], fun i hi ho => k.keepo i (Nat.lt_of_lt_of_le hi h.nx) (h.keepo i hi ho)⟩

/-- A draw. -/
theorem HR.drew {comp : Nat → Code → Option SC} {W : World} {μ : Emb} {H : Heap} {w : World} (h : HR comp W μ H w) (n : Nat) : HR comp W μ H { w with drawn := n } :=
  ⟨h.os, h.tape, h.output, h.size, h.old, h.dom, h.fresh, h.obj, h.inj, h.tip, h.root, h.mono, h.wf⟩

/-! ### Reading -/
section reading
variable {comp : Nat → Code → Option SC} {P : Program} {W : World} {μ : Emb} {H : Heap} {w : World} {A : Tm} {a : Act} {v : AV}

theorem HR.blk (h : HR comp W μ H w) {r : Rf} {b : Nat} (hr : RR μ r b) {c : Cells} (hc : blkOf W H r = some c) : ∃ rc t fz, w.heap[b]? = some (.cells rc t fz) ∧ CR μ (shR μ r) c rc := by
  cases r with
  | own i =>
    simp only [blkOf] at hc
    split at hc
    · rename_i c' t ln hg
      cases hc
      obtain ⟨r', O, h1, h2, h3⟩ := h.obj i _ hg
      have : μ.blk i = some b := hr
      rw [this] at h1
      cases h1
      cases O <;> simp only [OR] at h3
      exact ⟨_, _, _, h2, h3.2.1⟩
    · cases hc
  | old b' =>
    have : b = b' := hr
    subst this
    simp only [blkOf] at hc
    split at hc
    · rename_i c' t fz hg
      cases hc
      have hlt : b < W.heap.size := by
        rcases Nat.lt_or_ge b W.heap.size with h' | h'
        · exact h'
        · simp [Array.getElem?_eq_none h'] at hg
      refine ⟨c', t, fz, by rw [h.old b hlt]; exact hg, ⟨by simp [Cells.size, shR], fun j v hj => ?_⟩⟩
      simp only [Cells.get, List.getElem?_map, Option.map_eq_some_iff] at hj
      obtain ⟨u, hu, rfl⟩ := hj
      exact ⟨u, by simpa [shR] using hu, enc_VR μ u⟩
    · cases hc

theorem HR.mapOf (h : HR comp W μ H w) {r : Rf} {b : Nat} (hr : RR μ r b) {es : List (AV × AV)} (hc : Sx.mapOf W H r = some es) : ∃ res ck, w.heap[b]? = some (.map res ck) ∧ ER μ es res.toList := by
  cases r with
  | own i =>
    simp only [Sx.mapOf] at hc
    split at hc
    · rename_i es' hg
      cases hc
      obtain ⟨r', O, h1, h2, h3⟩ := h.obj i _ hg
      have : μ.blk i = some b := hr
      rw [this] at h1
      cases h1
      cases O <;> simp only [OR] at h3
      exact ⟨_, _, h2, h3⟩
    · cases hc
  | old b' =>
    have : b = b' := hr
    subst this
    simp only [Sx.mapOf] at hc
    split at hc
    · rename_i es' ck hg
      cases hc
      have hlt : b < W.heap.size := by
        rcases Nat.lt_or_ge b W.heap.size with h' | h'
        · exact h'
        · simp [Array.getElem?_eq_none h'] at hg
      refine ⟨es', ck, by rw [h.old b hlt]; exact hg, ?_⟩
      have key : ∀ l : List MapEntry, ER μ (l.map fun e => (enc e.key, enc e.val)) l := by
        intro l
        induction l with
        | nil => exact .nil
        | cons e l ih => exact .cons (enc_VR μ _) (enc_VR μ _) ih
      exact key _
    · cases hc

/-- Cells, one behind the other. -/
theorem run_loadN {b : Nat} {rc : Array Value} {t : TypeId} {fz : Nat × Nat} {c : Cells} (hb : w.heap[b]? = some (.cells rc t fz)) {s off : Nat} (hc : CR μ s c rc) {d' : Addr} (hd : d'.block = b) (hs : d'.spot = none) (hof : d'.off = off + s) {n : Nat} {l : List AV} (hl : c.getN off n = some l) :
    ∃ l', (loadCells d' n).run P w = .ok l'.toArray w ∧ VRL μ l l' ∧ l'.length = n := by
  obtain ⟨h1, h2⟩ := Cells.getN_get hl
  have hex : ∀ j, j < n → ∃ x v', c.get (off + j) = some x ∧ l[j]? = some x ∧ rc[d'.off + j]? = some v' ∧ VR μ x v' := by
    intro j hj
    have := h2 j hj
    have hjl : j < l.length := by omega
    rw [List.getElem?_eq_getElem hjl] at this
    obtain ⟨v', h3, h4⟩ := hc.get _ _ this
    exact ⟨_, v', this, List.getElem?_eq_getElem hjl, by rw [hof, show off + s + j = s + (off + j) from by omega]; exact h3, h4⟩
  let f : Nat → Value := fun j => rc[d'.off + j]?.getD undef
  have hcell : ∀ j, j < n → w.cell? (d'.add j) = some (f j) := by
    intro j hj
    obtain ⟨x, v', _, _, h3, _⟩ := hex j hj
    have hadd : d'.add j = ⟨b, d'.off + j, none⟩ := by
      unfold Addr.add
      split
      · rename_i h0; subst h0; cases d'; simp at hd hs ⊢; exact ⟨hd, hs⟩
      · cases d'; simp at hd ⊢; exact hd
    rw [hadd]
    simp [World.cell?, hb, h3, f]
  refine ⟨(List.range n).map f, ?_, ?_, by simp⟩
  · rw [run_loadCells w d' n f hcell]
  · refine VRL.of_get (by simp [h1]) fun i x v' hx hv' => ?_
    have hin : i < n := by
      have := (List.getElem?_eq_some_iff.1 hx).1
      omega
    obtain ⟨y, u, _, h4, h5, h6⟩ := hex i hin
    rw [hx] at h4
    cases h4
    simp [hin] at hv'
    subst hv'
    simp [f, h5]
    exact h6
end reading
end Go.Proofs.YtjfnhdiimibmiaaDoor.Sx

/- Operations that read memory. -/
namespace Go.Proofs.YtjfnhdiimibmiaaDoor.Sx
variable {comp : Nat → Code → Option SC} {P : Program} {W : World} {μ : Emb} {H : Heap} {w : World} {A : Tm} {a : Act} {v : AV}

theorem r_load {o : Oper} {t : TypeId} {n : Option Nat} {x : Operand} {x' : SX} (h : HR comp W μ H w) (hop : o.op = .load t x) (hn : aggN P t = some n) (hA : TmR μ A a.tmps) (hx : compX x = some x') (hv : evR W H A (.load n x') = some v) : Yields P μ a o v w := by
  have rx := evX_VR (μ := μ) hA hx
  obtain ⟨h1, h2⟩ := run_aggN (w := w) hn
  simp only [evR] at hv
  split at hv
  · rename_i d e
    rw [e] at rx
    cases hxv : a.eval x <;> rw [hxv] at rx <;> cases rx
    rename_i d' hd
    split at hv
    · rename_i c hc
      obtain ⟨rc, t', fz, hb, hcr⟩ := h.blk hd.rf hc
      cases n with
      | none =>
        simp only at hv
        obtain ⟨v', h3, h4⟩ := hcr.get _ _ hv
        refine ⟨v', ?_, h4⟩
        have hcell : w.cell? d' = some v' := by
          have : d' = ⟨d'.block, shR μ d.rf + d.off, none⟩ := by cases d'; have := hd.off; have := hd.spot; simp at *; exact ⟨by omega, by assumption⟩
          rw [this]; simp [World.cell?, hb, h3]
        simp only [execOp, hop, hxv, Instr.loadAt, Instr.sureAddr, Sem.run_bind, Sem.run_pure, Result.andThen_ok, loadVar, h1, Option.isSome, Bool.false_eq_true, if_false, run_load, hcell]
      | some k =>
        simp only at hv
        obtain ⟨l, hl, e2⟩ := map_some hv
        subst e2
        obtain ⟨l', h3, h4, _⟩ := run_loadN (P := P) hb hcr rfl hd.spot hd.off hl
        refine ⟨.agg l'.toArray, ?_, .agg (by simpa using h4)⟩
        simp only [execOp, hop, hxv, Instr.loadAt, Instr.sureAddr, Sem.run_bind, Sem.run_pure, Result.andThen_ok, loadVar, h1, Option.isSome, if_true, h2 k rfl, h3]
    · cases hv
  · cases hv

/-! ### Keys -/
/-- The kind of key, and the type. -/
theorem keyT_spec {t : TypeId} {ks : KS} (h : keyT P t = some ks) : (∃ k, ks = .leaf k ∧ leavesT P 9 t = some [k] ∧ aggN P t = some none) ∨ (∃ ls n, ks = .agg ls ∧ leavesT P 9 t = some ls ∧ aggN P t = some (some n)) := by
  unfold keyT at h
  split at h
  · cases h; exact .inl ⟨_, rfl, ‹_›, ‹_›⟩
  · cases h; exact .inr ⟨_, _, rfl, ‹_›, ‹_›⟩
  · cases h

theorem fitLeaf_spec {k : LK} {x : AV} {v : Value} (hx : VR μ x v) (h : fitLeaf k x = true) : (k = .i ∧ ∃ kk n, x = .int kk n ∧ v = .int kk n) ∨ (k = .s ∧ ∃ s : ByteArray, x = .str s.data.toList ∧ v = .string s) ∨ (k = .b ∧ ∃ b, x = .bool b ∧ v = .bool b) := by
  cases k <;> cases hx <;> simp [fitLeaf] at h
  · exact .inl ⟨rfl, _, _, rfl, rfl⟩
  · exact .inr (.inl ⟨rfl, _, rfl, rfl⟩)
  · exact .inr (.inr ⟨rfl, _, rfl, rfl⟩)

theorem fitL_len : ∀ {ls : List LK} {xs : List AV}, fitL ls xs = true → xs.length = ls.length := by
  intro ls
  induction ls with
  | nil => intro xs h; cases xs <;> simp [fitL] at h; rfl
  | cons k ls ih => intro xs h; cases xs <;> simp [fitL] at h; simp [ih h.2]
theorem fitL_append : ∀ {l1 l2 : List LK} {x1 x2 : List AV}, x1.length = l1.length → fitL (l1 ++ l2) (x1 ++ x2) = true → fitL l1 x1 = true ∧ fitL l2 x2 = true := by
  intro l1
  induction l1 with
  | nil => intro l2 x1 x2 hx h; cases x1 with | nil => exact ⟨rfl, by simpa using h⟩ | cons => simp at hx
  | cons k l1 ih =>
    intro l2 x1 x2 hx h
    cases x1 with
    | nil => simp at hx
    | cons x x1 =>
      simp only [List.cons_append, fitL, Bool.and_eq_true] at h ⊢
      have := ih (by simpa using hx) h.2
      exact ⟨⟨h.1, this.1⟩, this.2⟩

/-- The key's own look at itself: nothing happens. -/
theorem run_checkKey (emp : Bool) : ∀ (n : Nat) (t : TypeId) (ls : List LK), leavesT P n t = some ls → ∀ (d : Nat), n ≤ d → ∀ (xs : List AV) (vs : List Value), VRL μ xs vs → fitL ls xs = true → ∀ w, (Instr.checkKey emp d t (valOf P t vs)).run P w = .ok () w := by
  intro n
  induction n with
  | zero => intro t ls h; simp [leavesT] at h
  | succ n ih =>
    intro t ls h d hd xs vs hx hf w
    obtain ⟨d, rfl⟩ : ∃ m, d = m + 1 := ⟨d - 1, by omega⟩
    have hlen := fitL_len hf
    have hvl := hx.length
    simp only [leavesT] at h
    split at h
    · rename_i k hu; split at h <;> cases h
      simp only [Instr.checkKey, Sem.run_bind, run_underlying hu, Result.andThen_ok, Sem.run_pure]
    · rename_i hu; split at h <;> cases h
      simp only [Instr.checkKey, Sem.run_bind, run_underlying hu, Result.andThen_ok, Sem.run_pure]
    · rename_i hu; split at h <;> cases h
      simp only [Instr.checkKey, Sem.run_bind, run_underlying hu, Result.andThen_ok, Sem.run_pure]
    · rename_i fs hu
      split at h
      · cases h
      · split at h
        · rename_i l hfs
          split at h
          · cases h
            have hv1 : valOf P t vs = .agg vs.toArray := by simp [valOf, hu]
            rw [hv1]
            simp only [Instr.checkKey, Sem.run_bind, run_underlying hu, Result.andThen_ok]
            rw [← Array.forIn_toList]
            have key : ∀ (fl : List Field) (acc ls : List LK), leavesFs P (leavesT P n) fl acc = some ls → ∀ (r : List LK), ls = acc ++ r → xs.length = ls.length → fitL r (xs.drop acc.length) = true →
                (forIn fl PUnit.unit (fun f _ => (if f.name ≠ "_" then (do Instr.checkKey emp d f.type (← part f.type vs.toArray f.offset); pure (ForInStep.yield PUnit.unit)) else pure (ForInStep.yield PUnit.unit) : Sem (ForInStep PUnit)))).run P w = .ok PUnit.unit w := by
              intro fl
              induction fl with
              | nil => intro acc ls _ r _ _ _; simp
              | cons f fl ih2 =>
                intro acc ls h1 r hr hxl hq
                simp only [leavesFs] at h1
                split at h1
                · rename_i l hlf
                  split at h1
                  · rename_i hc
                    obtain ⟨hn, ho, hsz⟩ := hc
                    obtain ⟨r2, hr2⟩ := leavesFs_pre h1
                    have hrr : r = l ++ r2 := by
                      have h5 : acc ++ r = acc ++ (l ++ r2) := by rw [← hr, hr2, List.append_assoc]
                      exact List.append_cancel_left h5
                    subst hrr
                    have hll : acc.length + l.length ≤ ls.length := by rw [hr]; simp only [List.length_append]; omega
                    have sx : xs.drop acc.length = (xs.drop acc.length).take l.length ++ xs.drop (acc ++ l).length := by
                      rw [List.length_append, ← List.drop_drop, List.take_append_drop]
                    rw [sx] at hq
                    obtain ⟨q1, q2⟩ := fitL_append (by simp; omega) hq
                    have p1 : (part f.type vs.toArray f.offset).run P w = .ok (valOf P f.type ((vs.drop acc.length).take l.length)) w := by
                      rw [ho]; exact run_part hlf (by simp only [List.size_toArray]; omega)
                    have p3 := ih f.type l hlf d (by omega) _ _ ((hx.drop acc.length).take l.length) q1 w
                    have := ih2 (acc ++ l) ls h1 r2 hr2 hxl q2
                    simp only [List.forIn_cons, Sem.run_bind, if_pos hn, p1, Result.andThen_ok, p3, Sem.run_pure]
                    exact this
                  · cases h1
                · cases h1
            have := key fs.toList [] ls hfs ls rfl hlen (by simpa using hf)
            rw [this]; rfl
          · cases h
        · cases h
    · rename_i len e hu
      split at h
      · rename_i l hle
        split at h
        · rename_i hc
          cases h
          obtain ⟨hse, hst⟩ := hc
          have hv1 : valOf P t vs = .agg vs.toArray := by simp [valOf, hu]
          rw [hv1]
          simp only [Instr.checkKey, Sem.run_bind, run_underlying hu, Result.andThen_ok]
          simp only [Std.Legacy.Range.forIn_eq_forIn_range', Std.Legacy.Range.size, Nat.sub_zero, Nat.add_one_sub_one, Nat.div_one]
          have hfl : ∀ m : Nat, (List.replicate m l).flatten.length = m * l.length := by intro m; simp
          have key : ∀ (m k : Nat), k + m = len → fitL (List.replicate m l).flatten (xs.drop (k * l.length)) = true →
              (forIn (List.range' k m) PUnit.unit (fun i _ => (do Instr.checkKey emp d e (← part e vs.toArray (i * (← sizeOf e))); pure (ForInStep.yield PUnit.unit) : Sem (ForInStep PUnit)))).run P w = .ok PUnit.unit w := by
            intro m
            induction m with
            | zero => intro k _ _; simp
            | succ m ih2 =>
              intro k hk hq
              have hmul : k * l.length + (m + 1) * l.length = len * l.length := by rw [← Nat.add_mul, hk]
              have hmul2 : (m + 1) * l.length = m * l.length + l.length := Nat.succ_mul _ _
              have hk1 : (k + 1) * l.length = k * l.length + l.length := Nat.succ_mul _ _
              have hx3 := hlen
              rw [hfl] at hx3
              have sx : xs.drop (k * l.length) = (xs.drop (k * l.length)).take l.length ++ xs.drop ((k + 1) * l.length) := by
                rw [hk1, ← List.drop_drop, List.take_append_drop]
              rw [sx, List.replicate_succ, List.flatten_cons] at hq
              obtain ⟨q1, q2⟩ := fitL_append (by simp; omega) hq
              have p1 : (part e vs.toArray (k * l.length)).run P w = .ok (valOf P e ((vs.drop (k * l.length)).take l.length)) w := run_part hle (by simp only [List.size_toArray]; omega)
              have p3 := ih e l hle d (by omega) _ _ ((hx.drop (k * l.length)).take l.length) q1 w
              have := ih2 (k + 1) (by omega) q2
              simp only [List.range'_succ, List.forIn_cons, Sem.run_bind, run_sizeT hse, Result.andThen_ok, p1, p3, Sem.run_pure]
              exact this
          have := key len 0 (by omega) (by simpa using hf)
          rw [this]; rfl
        · cases h
      · cases h
    · cases h

theorem leaf_und {t : TypeId} {k : LK} (h : leavesT P 9 t = some [k]) (ha : aggN P t = some none) : (k = .i ∧ ∃ kk, P.underlying t = some (.int kk)) ∨ (k = .s ∧ P.underlying t = some .string) ∨ (k = .b ∧ P.underlying t = some .bool) := by
  simp only [leavesT] at h
  split at h
  · rename_i hu; split at h <;> cases h; exact .inl ⟨rfl, _, hu⟩
  · rename_i hu; split at h <;> cases h; exact .inr (.inl ⟨rfl, hu⟩)
  · rename_i hu; split at h <;> cases h; exact .inr (.inr ⟨rfl, hu⟩)
  · rename_i hu; simp [aggN, hu] at ha
  · rename_i hu; simp [aggN, hu] at ha
  · cases h
theorem agg_und {t : TypeId} {ls : List LK} {n : Nat} (h : leavesT P 9 t = some ls) (ha : aggN P t = some (some n)) : ((∃ fs, P.underlying t = some (.struct fs)) ∨ ∃ m e, P.underlying t = some (.array m e)) ∧ ∀ vs, valOf P t vs = .agg vs.toArray := by
  simp only [leavesT] at h
  split at h
  · rename_i hu; simp [aggN, hu] at ha
  · rename_i hu; simp [aggN, hu] at ha
  · rename_i hu; simp [aggN, hu] at ha
  · rename_i hu; exact ⟨.inl ⟨_, hu⟩, fun vs => by simp [valOf, hu]⟩
  · rename_i hu; exact ⟨.inr ⟨_, _, hu⟩, fun vs => by simp [valOf, hu]⟩
  · cases h

/-- What a search comes to. -/
def FR (μ : Emb) : Option (Nat × AV) → Option (Nat × Value) → Prop
  | none, none => True
  | some (i, v), some (j, v') => i = j ∧ VR μ v v'
  | _, _ => False

theorem findNow_leaf {t : TypeId} {k : LK} {d : TypeDesc} (hd : P.underlying t = some d) (hk : (k = .i ∧ ∃ kk, d = .int kk) ∨ (k = .s ∧ d = .string) ∨ (k = .b ∧ d = .bool)) {x : AV} {v : Value} (hx : VR μ x v) :
    ∀ {es : List (AV × AV)} {res : List MapEntry} {i : Nat} {r : Option (Nat × AV)}, ER μ es res → findK (.leaf k) x es i = some r → ∃ r', Instr.findNow d v res i = some r' ∧ FR μ r r' := by
  intro es
  induction es with
  | nil => intro res i r he h; cases he; simp [findK] at h; subst h; exact ⟨none, rfl, trivial⟩
  | cons p es ih =>
    intro res i r he h
    cases he with
    | cons hk1 hv1 hl =>
      rename_i k1 v1 e l'
      simp only [findK, eqKey] at h
      cases hq : eqLeaf k x k1 with
      | none => simp [hq] at h
      | some b =>
        have hs : Instr.sameNow d v e.key = some b := by
          rcases hk with ⟨rfl, kk, rfl⟩ | ⟨rfl, rfl⟩ | ⟨rfl, rfl⟩
          · obtain ⟨q, m, n, h1, h2, h3⟩ := eqLeaf_i hx hk1 hq
            rw [h1, h2, h3]; simp [Instr.sameNow]
          · obtain ⟨m, n, h1, h2, h3⟩ := eqLeaf_s hx hk1 hq
            rw [h1, h2, h3]
            simp only [Instr.sameNow]
            rw [beq_toListBytes, toList_eq, toList_eq]
          · obtain ⟨m, n, h1, h2, h3⟩ := eqLeaf_b hx hk1 hq
            rw [h1, h2, h3]; simp [Instr.sameNow]
        cases b with
        | true =>
          simp [hq] at h
          subst h
          exact ⟨some (i, e.val), by simp [Instr.findNow, hs], rfl, hv1⟩
        | false =>
          simp [hq] at h
          obtain ⟨r', h1, h2⟩ := ih hl h
          exact ⟨r', by simp [Instr.findNow, hs, h1], h2⟩

theorem findAsking_agg {t : TypeId} {ls : List LK} (hl : leavesT P 9 t = some ls) (hv : ∀ vs, valOf P t vs = .agg vs.toArray) {xs : List AV} {vs : Array Value} (hx : VRL μ xs vs.toList) :
    ∀ {es : List (AV × AV)} {res : List MapEntry} {i : Nat} {r : Option (Nat × AV)}, ER μ es res → findK (.agg ls) (.agg xs) es i = some r → ∃ r', (∀ w, (Instr.findAsking t (.agg vs) res i).run P w = .ok r' w) ∧ FR μ r r' := by
  intro es
  induction es with
  | nil => intro res i r he h; cases he; simp [findK] at h; subst h; exact ⟨none, fun w => rfl, trivial⟩
  | cons p es ih =>
    intro res i r he h
    cases he with
    | cons hk1 hv1 hl1 =>
      rename_i k1 v1 e l'
      simp only [findK] at h
      cases hq : eqKey (.agg ls) (.agg xs) k1 with
      | none => simp [hq] at h
      | some b =>
        have hs : ∀ w, (Op.equal t (.agg vs) e.key).run P w = .ok b w := by
          intro w
          generalize e.key = kv at hk1 ⊢
          cases hk1 <;> simp [eqKey] at hq
          rename_i ys ys' hy
          have := equalIn_leaves 9 t ls hl 10000 (by omega) _ _ _ _ b hx hy hq w
          rw [hv, hv] at this
          simpa [Op.equal, Op.maxDepth] using this
        cases b with
        | true =>
          simp [hq] at h
          subst h
          exact ⟨some (i, e.val), fun w => by simp [Instr.findAsking, hs], rfl, hv1⟩
        | false =>
          simp [hq] at h
          obtain ⟨r', h1, h2⟩ := ih hl1 h
          exact ⟨r', fun w => by simp [Instr.findAsking, hs, h1], h2⟩

theorem run_findKey {t : TypeId} {ks : KS} (hk : keyT P t = some ks) {x : AV} {v : Value} (hx : VR μ x v) (hf : fitK ks x = true) {es : List (AV × AV)} {res : List MapEntry} {r : Option (Nat × AV)} (he : ER μ es res) (h : findK ks x es 0 = some r) :
    ∃ r', (∀ w, (Instr.findKey t v res).run P w = .ok r' w) ∧ FR μ r r' := by
  rcases keyT_spec hk with ⟨k, rfl, hl, ha⟩ | ⟨ls, n, rfl, hl, ha⟩
  · have hu := leaf_und hl ha
    have hd : ∃ d, P.underlying t = some d ∧ ((k = .i ∧ ∃ kk, d = .int kk) ∨ (k = .s ∧ d = .string) ∨ (k = .b ∧ d = .bool)) := by
      rcases hu with ⟨rfl, kk, hu⟩ | ⟨rfl, hu⟩ | ⟨rfl, hu⟩
      · exact ⟨_, hu, .inl ⟨rfl, _, rfl⟩⟩
      · exact ⟨_, hu, .inr (.inl ⟨rfl, rfl⟩)⟩
      · exact ⟨_, hu, .inr (.inr ⟨rfl, rfl⟩)⟩
    obtain ⟨d, hd1, hd2⟩ := hd
    obtain ⟨r', h1, h2⟩ := findNow_leaf (P := P) hd1 hd2 hx he h
    exact ⟨r', fun w => by simp only [Instr.findKey, Sem.run_bind, run_underlying hd1, Result.andThen_ok, h1, Sem.run_pure], h2⟩
  · obtain ⟨hu, hval⟩ := agg_und hl ha
    cases hx <;> simp [fitK] at hf
    rename_i cs cs' hcs
    cases es with
    | nil =>
      cases he
      simp [findK] at h; subst h
      rcases hu with ⟨fs, hu⟩ | ⟨m, e, hu⟩ <;> exact ⟨none, fun w => by simp [Instr.findKey, run_underlying hu, Instr.findNow], trivial⟩
    | cons p es =>
      cases he with
      | cons hk1 hv1 hl1 =>
        rename_i k1 v1 e l'
        obtain ⟨r', h1, h2⟩ := findAsking_agg hl hval hcs (.cons hk1 hv1 hl1) h
        refine ⟨r', fun w => ?_, h2⟩
        rcases hu with ⟨fs, hu⟩ | ⟨m, e', hu⟩
        · simp only [Instr.findKey, Sem.run_bind, run_underlying hu, Result.andThen_ok, Instr.findNow, Instr.sameNow, h1]
        · simp only [Instr.findKey, Sem.run_bind, run_underlying hu, Result.andThen_ok, Instr.findNow, Instr.sameNow, h1]

theorem run_checkK {t : TypeId} {ks : KS} (hk : keyT P t = some ks) {x : AV} {v : Value} (hx : VR μ x v) (hf : fitK ks x = true) (emp : Bool) (w : World) : (Instr.checkKey emp 10000 t v).run P w = .ok () w := by
  rcases keyT_spec hk with ⟨k, rfl, hl, ha⟩ | ⟨ls, n, rfl, hl, ha⟩
  · have := run_checkKey (P := P) (μ := μ) emp 9 t [k] hl 10000 (by omega) [x] [v] (.cons hx .nil) (by simpa [fitL, fitK] using hf) w
    have hval : valOf P t [v] = v := by
      rcases leaf_und hl ha with ⟨rfl, kk, hu⟩ | ⟨rfl, hu⟩ | ⟨rfl, hu⟩ <;> simp [valOf, hu]
    rwa [hval] at this
  · obtain ⟨hu, hval⟩ := agg_und hl ha
    cases hx <;> simp [fitK] at hf
    rename_i cs cs' hcs
    have := run_checkKey (P := P) (μ := μ) emp 9 t ls hl 10000 (by omega) cs cs'.toList hcs hf w
    rwa [hval] at this

theorem lookV_run {ok : Bool} {z : AV} {z' : Value} (hz : VR μ z z') {r : Option (Nat × AV)} {r' : Option (Nat × Value)} (h : FR μ r r') :
    VR μ (lookV ok z r) (let p := match r' with | some (_, v) => (v, true) | none => (z', false); if ok then .tuple #[p.1, .bool p.2] else p.1) := by
  cases r with
  | none =>
    cases r' with
    | some q => cases h
    | none =>
      cases ok
      · exact hz
      · exact .tup (.cons hz (.cons (.bool _) .nil))
  | some q =>
    obtain ⟨i, v⟩ := q
    cases r' with
    | none => cases h
    | some q' =>
      obtain ⟨j, v'⟩ := q'
      cases ok
      · exact h.2
      · exact .tup (.cons h.2 (.cons (.bool _) .nil))

theorem r_look {o : Oper} {t kt et : TypeId} {ks : KS} {z : AV} {ok : Bool} {m k : Operand} {m' k' : SX} (h : HR comp W μ H w) (hop : o.op = .lookup t m k ok) (ht : P.underlying t = some (.map kt et)) (hz : zeroV P et = some z) (hks : keyT P kt = some ks)
    (hA : TmR μ A a.tmps) (hm : compX m = some m') (hk : compX k = some k') (hv : evR W H A (.look ok ks z m' k') = some v) : Yields P μ a o v w := by
  have rm := evX_VR (μ := μ) hA hm
  have rk := evX_VR (μ := μ) hA hk
  obtain ⟨z', hz1, hz2, _⟩ := run_zeroV hz
  have hzr : VR μ z z' := constAV_VR μ _ _ _ hz2
  simp only [evR] at hv
  split at hv
  · rename_i e
    rw [e] at rm
    cases hmv : a.eval m <;> rw [hmv] at rm <;> cases rm
    split at hv
    · rename_i hf
      cases hv
      have hc := run_checkK (P := P) hks rk hf
      refine ⟨_, ?_, lookV_run (r := none) (r' := none) hzr trivial⟩
      have hfk : (Instr.findKey kt (a.eval k) (#[] : Array MapEntry).toList).run P w = .ok none w := by
        obtain ⟨r', h1, h2⟩ := run_findKey (P := P) hks rk hf (.nil) (r := none) rfl
        cases r' with
        | none => exact h1 w
        | some q => cases h2
      simp only [execOp, hop, hmv, Instr.lookup, Sem.run_bind, run_underlying ht, Result.andThen_ok, Sem.run_pure, hc, hfk, hz1]
    · cases hv
  · rename_i r e
    rw [e] at rm
    cases hmv : a.eval m <;> rw [hmv] at rm <;> cases rm
    rename_i b hb
    split at hv
    · rename_i es hes
      obtain ⟨res, ck, hh, her⟩ := h.mapOf hb hes
      split at hv
      · rename_i hf
        obtain ⟨r, hr, e2⟩ := map_some hv
        subst e2
        have hc := run_checkK (P := P) hks rk hf
        obtain ⟨r', h1, h2⟩ := run_findKey (P := P) hks rk hf her hr
        refine ⟨_, ?_, lookV_run hzr h2⟩
        have hg : (getObj b).run P w = .ok (.map res ck) w := by simp [getObj, Sem.run, hh]
        cases r' with
        | none => simp only [execOp, hop, hmv, Instr.lookup, Sem.run_bind, run_underlying ht, Result.andThen_ok, Sem.run_pure, hg, hc, h1, hz1]
        | some q => simp only [execOp, hop, hmv, Instr.lookup, Sem.run_bind, run_underlying ht, Result.andThen_ok, Sem.run_pure, hg, hc, h1]
      · cases hv
    · cases hv
  · cases hv

theorem r_lenM {o : Oper} {c : Call} {t kt et : TypeId} {x' : SX} (h : HR comp W μ H w) (hop : o.op = .call c) (hb : c.callee = .builtin .len) (h0 : c.argTypes[0]? = some t) (ht : P.underlying t = some (.map kt et)) (hx : compXs c.args = some [x'])
    (hA : TmR μ A a.tmps) (hv : evR W H A (.lenM x') = some v) : Yields P μ a o v w := by
  obtain ⟨r, hr, rx⟩ := getX_args (μ := μ) hx hA (i := 0) rfl
  unfold Yields
  rw [run_builtin hop hb]
  simp only [evR] at hv
  generalize evX A x' = xv at rx hv
  split at hv
  · cases hv
    cases rx
    exact ⟨.int .i64 0, by simp only [builtin, Builtin.len_, h0, hr, Sem.run_bind, run_underlying ht, Result.andThen_ok, goInt, Sem.run_pure], .int _ _⟩
  · rename_i q
    obtain ⟨es, hes, e⟩ := map_some hv
    subst e
    cases rx
    rename_i b hbr
    obtain ⟨res, ck, hh, her⟩ := h.mapOf hbr hes
    have hg : (getObj b).run P w = .ok (.map res ck) w := by simp [getObj, Sem.run, hh]
    have hl := her.length
    refine ⟨.int .i64 res.size, ?_, ?_⟩
    · simp only [builtin, Builtin.len_, h0, hr, Sem.run_bind, run_underlying ht, Result.andThen_ok, goInt, Sem.run_pure, hg]
    · rw [← hl]; simpa using VR.int _ _
  · cases hv

theorem bytesOfL_spec : ∀ {l : List AV} {l' : List Value} {bs : List UInt8}, VRL μ l l' → bytesOfL l = some bs → ∃ ns : List Int, l' = ns.map (Value.int .u8) ∧ bs = ns.map fun n => UInt8.ofNat n.toNat := by
  intro l
  induction l with
  | nil => intro l' bs hl h; cases hl; simp [bytesOfL] at h; subst h; exact ⟨[], rfl, rfl⟩
  | cons x l ih =>
    intro l' bs hl h
    cases hl with
    | cons hx hl =>
      unfold bytesOfL at h
      split at h
      · rename_i heq; cases heq
      · rename_i heq
        cases heq
        split at h
        · rename_i l2 hl2
          cases h
          obtain ⟨ns, h1, h2⟩ := ih hl hl2
          cases hx
          exact ⟨_ :: ns, by rw [h1]; rfl, by rw [h2]; rfl⟩
        · cases h
      · cases h

theorem r_b2s {o : Oper} {s d e : TypeId} {x : Operand} {x' : SX} (h : HR comp W μ H w) (hop : o.op = .convert s d x) (hs : P.underlying s = some (.slice e)) (hd : P.underlying d = some .string) (he : P.underlying e = some (.int .u8))
    (hA : TmR μ A a.tmps) (hx : compX x = some x') (hv : evR W H A (.b2s x') = some v) : Yields P μ a o v w := by
  have rx := evX_VR (μ := μ) hA hx
  have key : ∀ (b : Option Addr) (l c : Nat), a.eval x = .slice b l c → (execOp a.eval o).run P w = ((Conv.bytesToString (.slice b l c)).run P w).andThen fun v w => .ok (.value v) w := by
    intro b l c e1
    simp only [execOp, hop, e1, convert, Sem.run_bind, run_underlying hs, run_underlying hd, Result.andThen_ok, run_underlying he, Sem.run_pure]
  simp only [evR] at hv
  generalize evX A x' = xv at rx hv
  generalize hxv : a.eval x = xr at rx
  cases rx <;> simp only at hv <;> try (cases hv; done)
  · cases hv
    exact ⟨.string .empty, by rw [key _ _ _ hxv]; rfl, VR.str .empty⟩
  · rename_i dd dd' len cap c' hdd hcap
    split at hv
    · rename_i c hc
      obtain ⟨rc, t', fz, hb, hcr⟩ := h.blk hdd.rf hc
      split at hv
      · rename_i l hl
        obtain ⟨bs, hbs, e1⟩ := map_some hv
        subst e1
        obtain ⟨l', h3, h4, h5⟩ := run_loadN (P := P) hb hcr rfl hdd.spot hdd.off hl
        obtain ⟨ns, h6, h7⟩ := bytesOfL_spec h4 hbs
        have hrun := run_bytesToString (P := P) w dd' len c' ns (by rw [h3, h6])
        have hfold : ∀ (ns : List Int) (s : ByteArray), (ns.foldl (fun r n => r.push (UInt8.ofNat n.toNat)) s).data.toList = s.data.toList ++ ns.map fun n => UInt8.ofNat n.toNat := by
          intro ns
          induction ns with
          | nil => intro s; simp
          | cons n ns ih => intro s; rw [List.foldl_cons, ih]; simp
        refine ⟨_, by rw [key _ _ _ hxv, hrun]; rfl, ?_⟩
        have := hfold ns .empty
        have h8 : bs = (ns.foldl (fun r n => r.push (UInt8.ofNat n.toNat)) ByteArray.empty).data.toList := by rw [this, h7]; simp
        rw [h8]
        exact .str _
      · cases hv
    · cases hv
  · cases hv
    refine ⟨.string .empty, ?_, VR.str .empty⟩
    rw [key _ _ _ hxv]
    simp [Conv.bytesToString, loadCells, loadCellsFrom]
  · cases hv
    refine ⟨.string .empty, ?_, VR.str .empty⟩
    rw [key _ _ _ hxv]
    simp [Conv.bytesToString, loadCells, loadCellsFrom]
end Go.Proofs.YtjfnhdiimibmiaaDoor.Sx

/- Memory that is made, and memory that is written. -/
namespace Go.Proofs.YtjfnhdiimibmiaaDoor.Sx
variable {comp : Nat → Code → Option SC} {P : Program} {W : World} {μ : Emb} {H : Heap} {w : World}

theorem Heap.get_of_objs {H : Heap} {i : Nat} {o : AObj} (h : H.get i = some o) : H.objs.get i = some o := by
  unfold Heap.get at h
  split at h
  · rename_i c t l e
    split at h
    · split at h
      · rw [e]; exact h
      · cases h
    · cases h
  · exact h

/-- Numbers are set aside. -/
theorem HR.bump (h : HR comp W μ H w) (k : Nat) : HR comp W μ { H with next := H.next + k } w :=
  ⟨h.os, h.tape, h.output, h.size, h.old, h.dom, fun i hi => h.fresh i (Nat.le_trans (Nat.le_add_right _ _) hi), h.obj, h.inj, h.tip, h.root, h.mono, ⟨h.wf.root, fun i hi => h.wf.clean i (Nat.le_trans (Nat.le_add_right _ _) hi)⟩⟩
theorem Step.bump (μ : Emb) (H : Heap) (w : World) (k : Nat) : Step μ H w μ { H with next := H.next + k } w :=
  ⟨⟨Emb.le_refl μ, Nat.le_refl _, fun _ _ _ => rfl, fun j o _ h1 h2 _ => ⟨j, o, h1, h2⟩⟩, Nat.le_add_right _ _, fun _ _ => rfl, fun _ _ h => h⟩

def Emb.add (μ : Emb) (id r n : Nat) : Emb := ⟨fun i => if i = id then some r else μ.blk i, fun i => if i = id then n else μ.siz i, fun i => if i = id then 0 else μ.sh i⟩
theorem Emb.le_add {id r n : Nat} (h : μ.blk id = none) : μ.le (μ.add id r n) := by
  intro i b hi
  have : i ≠ id := fun e => by rw [e, h] at hi; cases hi
  simp [Emb.add, this, hi]
def Emb.addS (μ : Emb) (id r n s : Nat) : Emb := ⟨fun i => if i = id then some r else μ.blk i, fun i => if i = id then n else μ.siz i, fun i => if i = id then s else μ.sh i⟩
theorem Emb.le_addS {id r n s : Nat} (h : μ.blk id = none) : μ.le (μ.addS id r n s) := by
  intro i b hi
  have : i ≠ id := fun e => by rw [e, h] at hi; cases hi
  simp [Emb.addS, this, hi]
def objSize : Obj → Nat
  | .cells c _ _ => c.size
  | _ => 0

theorem Heap.get_lay_other {H : Heap} {id : Nat} {o : AObj} (hl : ∀ l, o.line = some l → l = id) {j : Nat} (hj : j ≠ id) (hr : ∀ c t l, H.objs.get j = some (.cells c t (some l)) → l ≠ id) : (H.lay id o).get j = H.get j := by
  have hobj : (H.lay id o).objs.get j = H.objs.get j := by
    unfold Heap.lay
    split <;> simp [Tr.get_set, hj]
  unfold Heap.get
  rw [hobj]
  split
  · rename_i c t l e
    have hl' : (H.lay id o).lines.get l = H.lines.get l := by
      have hne := hr c t l e
      unfold Heap.lay
      split
      · rename_i c' t' l'
        have := hl l' rfl
        simp only [Tr.get_set]
        rw [if_neg (by omega)]
      · rfl
    rw [hl']
  · rfl
theorem Heap.get_lay_self {H : Heap} {id : Nat} {o : AObj} (hl : ∀ l, o.line = some l → l = id) : (H.lay id o).get id = some o := by
  cases o with
  | cells c t ln =>
    cases ln with
    | none => simp [Heap.get, Heap.lay, Tr.get_set]
    | some l =>
      have := hl l rfl
      subst this
      simp [Heap.get, Heap.lay, Tr.get_set]
  | map es => simp [Heap.get, Heap.lay, Tr.get_set]
  | loop st p tm ps asg body df => simp [Heap.get, Heap.lay, Tr.get_set]
  | deferred b => simp [Heap.get, Heap.lay, Tr.get_set]

theorem HWf.lay {H : Heap} (h : HWf H) {id : Nat} {o : AObj} (hid : id < H.next) (hl : ∀ l, o.line = some l → l = id) : HWf (H.lay id o) := by
  unfold Heap.lay
  split
  · exact h.set (Nat.le_refl _) hid (fun l e => .inl (hl l e))
  · exact h.set (Nat.le_refl _) hid (fun l e => .inl (hl l e))
/-- What the heap says of a block that has been given up is not asked; what it says of one that has not: its line is not a number that is free. -/
theorem HR.lay (h : HR comp W μ H w) {id : Nat} {o : AObj} {O : Obj} (hid : id < H.next) (hn : μ.blk id = none) (hl : ∀ l, o.line = some l → l = id)
    (hO : OR comp (μ.add id w.heap.size (objSize O)) id o O) :
    HR comp W (μ.add id w.heap.size (objSize O)) (H.lay id o) { w with heap := w.heap.push O } ∧ Step0 μ H w (μ.add id w.heap.size (objSize O)) (H.lay id o) { w with heap := w.heap.push O } := by
  have hle : μ.le (μ.add id w.heap.size (objSize O)) := Emb.le_add hn
  have hfree : ∀ j c t l, H.objs.get j = some (.cells c t (some l)) → l ≠ id := by
    intro j c t l hj e
    have := h.root j c t l hj
    rw [e, hn] at this; cases this
  have hblk : ∀ i, i ≠ id → (μ.add id w.heap.size (objSize O)).blk i = μ.blk i := fun i hi => by simp [Emb.add, hi]
  have hbid : (μ.add id w.heap.size (objSize O)).blk id = some w.heap.size := by simp [Emb.add]
  have hget : ∀ j, j ≠ id → (H.lay id o).get j = H.get j := fun j hj => Heap.get_lay_other hl hj (hfree j)
  have hself : (H.lay id o).get id = some o := Heap.get_lay_self hl
  have hnext : (H.lay id o).next = H.next := by unfold Heap.lay; split <;> rfl
  have hold : ∀ r, r < w.heap.size → (w.heap.push O)[r]? = w.heap[r]? := fun r hr => by rw [Array.getElem?_push, if_neg (by omega)]
  have hnone : ∀ j o' , H.get j = some o' → j ≠ id := by
    intro j o' hj e
    obtain ⟨r, O', h1, _⟩ := h.obj j o' hj
    rw [e, hn] at h1; cases h1
  refine ⟨⟨h.os, h.tape, h.output, ?_, ?_, ?_, ?_, ?_, ?_, ?_, ?_, ?_, h.wf.lay hid hl⟩, ⟨hle, by simp, fun r hr _ => hold r hr, ?_⟩⟩
  · simp only [Array.size_push]; exact Nat.le_succ_of_le h.size
  · intro b hb
    have := h.size
    show (w.heap.push O)[b]? = _
    rw [hold b (by omega)]; exact h.old b hb
  · intro i r hi
    simp only [Array.size_push]
    by_cases e : i = id
    · subst e; rw [hbid] at hi; cases hi; exact ⟨h.size, by omega⟩
    · rw [hblk i e] at hi; have := h.dom i r hi; omega
  · intro i hi
    rw [hnext] at hi
    rw [hblk i (by omega)]; exact h.fresh i hi
  · intro j o' hj
    by_cases e : j = id
    · subst e
      rw [hself] at hj; cases hj
      exact ⟨w.heap.size, O, hbid, by simp, hO⟩
    · rw [hget j e] at hj
      obtain ⟨r, O', h1, h2, h3⟩ := h.obj j o' hj
      refine ⟨r, O', (hle j r h1).1, ?_, h3.le hle h1⟩
      show (w.heap.push O)[r]? = _
      rw [hold r (h.dom j r h1).2]; exact h2
  · intro i j r oi oj hi hj hri hrj hne
    by_cases ei : i = id
    · subst ei
      rw [hbid] at hri; cases hri
      rw [hblk j (fun e => hne e.symm)] at hrj
      have := (h.dom j _ hrj).2
      omega
    · by_cases ej : j = id
      · subst ej
        rw [hbid] at hrj; cases hrj
        rw [hblk i ei] at hri
        have := (h.dom i _ hri).2
        omega
      · rw [hget i ei] at hi
        rw [hget j ej] at hj
        rw [hblk i ei] at hri
        rw [hblk j ej] at hrj
        rw [(hle i r hri).2.2, (hle j r hrj).2.2]
        exact h.inj i j r oi oj hi hj hri hrj hne
  · intro j o' l hj hlj
    by_cases e : j = id
    · subst e
      rw [hself] at hj; cases hj
      have := hl l hlj
      subst this
      refine ⟨l, l, ?_, Nat.le_refl _⟩
      cases o <;> simp [AObj.line] at hlj
      subst hlj
      simp [Heap.lay, Tr.get_set]
    · rw [hget j e] at hj
      obtain ⟨fl, tp, h1, h2⟩ := h.tip j o' l hj hlj
      refine ⟨fl, tp, ?_, h2⟩
      have hob := Heap.get_of_objs hj
      have hne : l ≠ id := by
        cases o' <;> simp [AObj.line] at hlj
        subst hlj
        exact hfree j _ _ _ hob
      rw [← h1]
      unfold Heap.lay
      split
      · rename_i c' t' l'
        have := hl l' rfl
        simp only [Tr.get_set]
        rw [if_neg (by omega)]
      · rfl
  · intro j c t l hj
    by_cases e : j = id
    · subst e
      have : o = .cells c t (some l) := by
        have h1 : (H.lay j o).objs.get j = some o := by unfold Heap.lay; split <;> simp [Tr.get_set]
        rw [h1] at hj; cases hj; rfl
      have := hl l (by rw [this]; rfl)
      subst this
      rw [hbid]; rfl
    · have h1 : (H.lay id o).objs.get j = H.objs.get j := by unfold Heap.lay; split <;> simp [Tr.get_set, e]
      rw [h1] at hj
      obtain ⟨q, hq⟩ := Option.isSome_iff_exists.1 (h.root j c t l hj)
      rw [(hle l q hq).1]; rfl
  · intro j k cj tj ck tk l hj hk hjk
    have hline : ∀ m c t, (H.lay id o).get m = some (.cells c t (some l)) → (m = id → l = id ∧ o = .cells c t (some l)) ∧ (m ≠ id → H.get m = some (.cells c t (some l)) ∧ l ≠ id) := by
      intro m c t hm
      refine ⟨fun e => ?_, fun e => ?_⟩
      · subst e; rw [hself] at hm; cases hm; exact ⟨hl l rfl, rfl⟩
      · rw [hget m e] at hm; exact ⟨hm, hfree m c t l (Heap.get_of_objs hm)⟩
    by_cases ej : j = id
    · have h1 := (hline j cj tj hj).1 ej
      by_cases ek : k = id
      · have h2 := (hline k ck tk hk).1 ek
        have := h1.2.symm.trans h2.2
        cases this; exact Nat.le_refl _
      · exact absurd h1.1 ((hline k ck tk hk).2 ek).2
    · have h1 := (hline j cj tj hj).2 ej
      by_cases ek : k = id
      · exact absurd ((hline k ck tk hk).1 ek).1 h1.2
      · exact h.mono j k cj tj ck tk l h1.1 ((hline k ck tk hk).2 ek).1 hjk
  · intro j o' r hj hr hlt
    by_cases e : j = id
    · subst e; rw [hbid] at hr; cases hr; omega
    · rw [hget j e] at hj
      rw [hblk j e] at hr
      exact ⟨j, o', hj, hr⟩
end Go.Proofs.YtjfnhdiimibmiaaDoor.Sx

/- Memory that is written. -/
namespace Go.Proofs.YtjfnhdiimibmiaaDoor.Sx
variable {comp : Nat → Code → Option SC} {P : Program} {W : World} {μ : Emb} {H : Heap} {w : World}

/-- A block becomes another. -/
def setB (w : World) (r : Nat) (o : Obj) : World := { w with heap := w.heap.setIfInBounds r o }
theorem setB_self {r : Nat} (o : Obj) (h : r < w.heap.size) : (setB w r o).heap[r]? = some o := by simp [setB, h]
theorem setB_other {r k : Nat} (o : Obj) (h : k ≠ r) : (setB w r o).heap[k]? = w.heap[k]? := by
  simp only [setB, Array.getElem?_setIfInBounds]; rw [if_neg (fun e => h e.symm)]
theorem World.ext_heap {w w' : World} (h1 : w.heap = w'.heap) (h2 : w.tape = w'.tape) (h3 : w.drawn = w'.drawn) (h4 : w.os = w'.os) (h5 : w.output = w'.output) : w = w' := by
  cases w; cases w'; simp_all
theorem setB_setB {r : Nat} (o o' : Obj) : setB (setB w r o) r o' = setB w r o' := by
  refine World.ext_heap ?_ rfl rfl rfl rfl
  simp only [setB]
  apply Array.ext_getElem?
  intro k
  simp only [Array.getElem?_setIfInBounds, Array.size_setIfInBounds]
  split <;> rfl
theorem setB_same {r : Nat} {o : Obj} (h : w.heap[r]? = some o) : setB w r o = w := by
  refine World.ext_heap ?_ rfl rfl rfl rfl
  simp only [setB]
  apply Array.ext_getElem?
  intro k
  simp only [Array.getElem?_setIfInBounds]
  by_cases e : r = k
  · subst e
    have hlt : r < w.heap.size := by
      rcases Nat.lt_or_ge r w.heap.size with h' | h'
      · exact h'
      · simp [Array.getElem?_eq_none h'] at h
    rw [if_pos rfl, if_pos hlt, h]
  · rw [if_neg e]

/-- Cells written over others. -/
def ovw (rc : Array Value) : Nat → List Value → Array Value
  | _, [] => rc
  | off, v :: l => ovw (rc.setIfInBounds off v) (off + 1) l
theorem ovw_size : ∀ (l : List Value) (rc : Array Value) (off : Nat), (ovw rc off l).size = rc.size := by
  intro l
  induction l with
  | nil => intro rc off; rfl
  | cons v l ih => intro rc off; rw [ovw, ih]; simp
theorem ovw_get : ∀ (l : List Value) (rc : Array Value) (off k : Nat), off + l.length ≤ rc.size → (ovw rc off l)[k]? = if off ≤ k ∧ k < off + l.length then l[k - off]? else rc[k]? := by
  intro l
  induction l with
  | nil => intro rc off k h; rw [ovw, if_neg (by simp only [List.length_nil]; omega)]
  | cons v l ih =>
    intro rc off k h
    simp only [List.length_cons] at h ⊢
    rw [ovw, ih _ _ _ (by simp; omega), Array.getElem?_setIfInBounds]
    by_cases e : off = k
    · subst e
      rw [if_neg (by omega), if_pos rfl, if_pos (by omega), if_pos (by omega)]; simp
    · rw [if_neg e]
      by_cases h1 : off + 1 ≤ k ∧ k < off + 1 + l.length
      · rw [if_pos h1, if_pos (by omega)]
        obtain ⟨q, rfl⟩ : ∃ q, k = off + 1 + q := ⟨k - (off + 1), by omega⟩
        rw [show off + 1 + q - (off + 1) = q from by omega, show off + 1 + q - off = q + 1 from by omega]; simp
      · rw [if_neg h1, if_neg (by omega)]

def oneR : Value → Bool
  | .agg _ | .tuple _ => false
  | _ => true
theorem oneR_of {v : AV} {v' : Value} (h : VR μ v v') (ho : oneC v = true) : oneR v' = true := by
  cases h <;> first | rfl | (simp [oneC] at ho)

theorem setCell_eq {r off : Nat} {rc : Array Value} {t : TypeId} {fz : Nat × Nat} {v : Value} (hb : w.heap[r]? = some (.cells rc t fz)) : w.setCell ⟨r, off, none⟩ v = setB w r (.cells (rc.setIfInBounds off v) t fz) := by
  refine World.ext_heap ?_ rfl rfl rfl rfl
  simp only [World.setCell, setB]
  apply Array.ext_getElem?
  intro k
  simp only [Array.getElem?_modify, Array.getElem?_setIfInBounds]
  by_cases e : r = k
  · subst e
    have hlt : r < w.heap.size := by
      rcases Nat.lt_or_ge r w.heap.size with h' | h'
      · exact h'
      · simp [Array.getElem?_eq_none h'] at hb
    rw [if_pos rfl, if_pos rfl, if_pos hlt, hb]; rfl
  · rw [if_neg e, if_neg e]

theorem run_store1 {r off : Nat} {rc : Array Value} {t : TypeId} {fz : Nat × Nat} {v : Value} (hb : w.heap[r]? = some (.cells rc t fz)) (hoff : off < rc.size) (hfz : ¬ (fz.1 ≤ off ∧ off < fz.2)) (hv : oneR v = true) :
    (store ⟨r, off, none⟩ v).run P w = .ok () (setB w r (.cells (rc.setIfInBounds off v) t fz)) := by
  have h1 : w.cell? ⟨r, off, none⟩ = some rc[off] := by simp [World.cell?, hb, hoff]
  have h2 : w.frozen? ⟨r, off, none⟩ = false := by
    simp only [World.frozen?, hb]
    rw [Bool.eq_false_iff]
    intro h
    simp at h
    exact hfz h
  have h3 : (store ⟨r, off, none⟩ v).run P w = .ok () (w.setCell ⟨r, off, none⟩ v) := by
    cases v <;> simp [oneR] at hv <;> simp [store, Sem.run, h1, h2]
  rw [h3, setCell_eq hb]

theorem run_storeCells {r : Nat} {t : TypeId} {fz : Nat × Nat} {a' : Addr} (ha : a'.block = r) (hs : a'.spot = none) : ∀ (vs : List Value) (i : Nat) (rc : Array Value) (w : World), w.heap[r]? = some (.cells rc t fz) → a'.off + i + vs.length ≤ rc.size →
    (∀ o, o < rc.size → ¬ (fz.1 ≤ o ∧ o < fz.2)) → (∀ v ∈ vs, oneR v = true) → (storeCells a' vs i).run P w = .ok () (setB w r (.cells (ovw rc (a'.off + i) vs) t fz)) := by
  intro vs
  induction vs with
  | nil =>
    intro i rc w hb _ _ _
    simp only [storeCells, Sem.run_pure, ovw]
    rw [setB_same hb]
  | cons v vs ih =>
    intro i rc w hb hl hfz hv
    simp only [List.length_cons] at hl
    have hlt : r < w.heap.size := by
      rcases Nat.lt_or_ge r w.heap.size with h' | h'
      · exact h'
      · simp [Array.getElem?_eq_none h'] at hb
    have hadd : a'.add i = ⟨r, a'.off + i, none⟩ := by
      unfold Addr.add
      split
      · rename_i h0; subst h0; cases a'; simp at ha hs ⊢; exact ⟨ha, hs⟩
      · cases a'; simp at ha ⊢; exact ha
    have h1 := run_store1 (P := P) hb (off := a'.off + i) (v := v) (by omega) (hfz _ (by omega)) (hv v (by simp))
    simp only [storeCells, Sem.run_bind, hadd, h1, Result.andThen_ok]
    rw [ih (i + 1) (rc.setIfInBounds (a'.off + i) v) _ (setB_self _ hlt) (by simp; omega) (by intro o ho; exact hfz o (by simpa using ho)) (fun u hu => hv u (by simp [hu]))]
    rw [setB_setB]
    rfl

theorem CR.ovw {s : Nat} {c : Cells} {rc : Array Value} (h : CR μ s c rc) {off : Nat} {vs : List AV} {vs' : List Value} (hv : VRL μ vs vs') (hl : off + vs.length ≤ c.size) : CR μ s (c.setN off vs) (ovw rc (s + off) vs') := by
  have hlen := hv.length
  have hsz := h.size
  refine ⟨by rw [Cells.size_setN, ovw_size]; exact h.size, fun j v hj => ?_⟩
  rw [Cells.get_setN _ _ _ _ hl] at hj
  rw [ovw_get _ _ _ _ (by omega), hlen]
  split at hj
  · rename_i hc
    rw [if_pos (by omega), show s + j - (s + off) = j - off from by omega]
    exact hv.get hj
  · rename_i hc
    rw [if_neg (by omega)]
    exact h.get j v hj

theorem oneR_all {vs : List AV} {vs' : List Value} (hv : VRL μ vs vs') (ha : vs.all oneC = true) : ∀ v ∈ vs', oneR v = true := by
  have hlen := hv.length
  intro v hvm
  obtain ⟨j, hj, rfl⟩ := List.mem_iff_getElem.1 hvm
  have hj2 : j < vs.length := by omega
  obtain ⟨v', h1, h2⟩ := hv.get (i := j) (v := vs[j]) (by simp [hj2])
  rw [List.getElem?_eq_getElem hj] at h1
  cases h1
  exact oneR_of h2 (List.all_eq_true.1 ha _ (List.getElem_mem hj2))
/-- A block of the call's own is written. -/
theorem HR.write (h : HR comp W μ H w) {i off : Nat} {vs : List AV} {H' : Heap} (hw : H.write i off vs = some H') {vs' : List Value} (hv : VRL μ vs vs') :
    ∃ r rc t fz, μ.blk i = some r ∧ w.heap[r]? = some (.cells rc t fz) ∧ μ.sh i + off + vs'.length ≤ rc.size ∧ (∀ o, o < rc.size → ¬ (fz.1 ≤ o ∧ o < fz.2)) ∧ (∀ v ∈ vs', oneR v = true) ∧
      HR comp W μ H' (setB w r (.cells (ovw rc (μ.sh i + off) vs') t fz)) ∧ Step μ H w μ H' (setB w r (.cells (ovw rc (μ.sh i + off) vs') t fz)) ∧ H'.next = H.next := by
  have hlen := hv.length
  have oner : vs.all oneC = true → ∀ v ∈ vs', oneR v = true := oneR_all hv
  -- what is common to both kinds of rows
  have main : ∀ (c : Cells) (t : TypeId) (ln : Option Nat), H.get i = some (.cells c t ln) → off + vs.length ≤ c.size → vs.all oneC = true → H'.next = H.next →
      H'.get i = some (.cells (c.setN off vs) t ln) → (∀ j o, j ≠ i → H'.get j = some o → H.get j = some o ∧ (∀ l, ln = some l → o.line ≠ some l)) →
      (∀ l, ln = some l → H'.lines.get l = some (i, i)) → (∀ l, ln ≠ some l → H'.lines.get l = H.lines.get l) → (∀ j c' t' l, H'.objs.get j = some (.cells c' t' (some l)) → ∃ c'' t'', H.objs.get j = some (.cells c'' t'' (some l))) → (∀ j, H'.objs.get j = none ↔ H.objs.get j = none) →
      ∃ r rc t fz, μ.blk i = some r ∧ w.heap[r]? = some (.cells rc t fz) ∧ μ.sh i + off + vs'.length ≤ rc.size ∧ (∀ o, o < rc.size → ¬ (fz.1 ≤ o ∧ o < fz.2)) ∧ (∀ v ∈ vs', oneR v = true) ∧
      HR comp W μ H' (setB w r (.cells (Sx.ovw rc (μ.sh i + off) vs') t fz)) ∧ Step μ H w μ H' (setB w r (.cells (Sx.ovw rc (μ.sh i + off) vs') t fz)) ∧ H'.next = H.next := by
    intro c t ln hg hl ho hnext hself hother hlines hlines' hroot hobjs
    obtain ⟨r, O, hr, hO, hor⟩ := h.obj i _ hg
    cases O <;> simp only [OR] at hor
    rename_i rc t' fz
    obtain ⟨rfl, hcr, hsz, hfz⟩ := hor
    have hlt := (h.dom i r hr).2
    have hcs := hcr.size
    -- no other block that is still good lies there
    have hno : ∀ j o, j ≠ i → H'.get j = some o → μ.blk j ≠ some r := by
      intro j o hne hj hb
      obtain ⟨hj1, hj2⟩ := hother j o hne hj
      obtain ⟨l, h1, h2, _⟩ := h.inj i j r _ _ hg hj1 hr hb (fun e => hne e.symm)
      exact hj2 l h1 h2
    refine ⟨r, rc, t', fz, hr, hO, by omega, hfz, oner ho, ⟨h.os, h.tape, h.output, by simp [setB]; exact h.size, ?_, ?_, ?_, ?_, ?_, ?_, ?_, ?_, ?_⟩, ⟨⟨Emb.le_refl μ, by simp [setB], ?_, ?_⟩, by omega, fun _ _ => rfl, fun j _ hj => (hobjs j).2 hj⟩, hnext⟩
    · intro b hb
      rw [setB_other _ (by have := (h.dom i r hr).1; omega)]; exact h.old b hb
    · intro j q hj; simp only [setB, Array.size_setIfInBounds]; exact h.dom j q hj
    · intro j hj; rw [hnext] at hj; exact h.fresh j hj
    · intro j o hj
      by_cases e : j = i
      · subst e
        rw [hself] at hj; cases hj
        refine ⟨r, _, hr, setB_self _ hlt, ?_⟩
        exact ⟨rfl, hcr.ovw hv hl, by rw [ovw_size]; exact hsz, by rw [ovw_size]; exact hfz⟩
      · have hnr := hno j o e hj
        obtain ⟨q, O, h1, h2, h3⟩ := h.obj j o (hother j o e hj).1
        have : q ≠ r := fun e' => hnr (by rw [h1, e'])
        exact ⟨q, O, h1, by rw [setB_other _ this]; exact h2, h3⟩
    · intro j k q oj ok hj hk hqj hqk hne
      have hex : ∀ m o, H'.get m = some o → ∃ o', H.get m = some o' ∧ o'.line = o.line := by
        intro m o hm
        by_cases e : m = i
        · subst e; rw [hself] at hm; cases hm; exact ⟨_, hg, rfl⟩
        · exact ⟨o, (hother m o e hm).1, rfl⟩
      obtain ⟨oj', h1, h2⟩ := hex j oj hj
      obtain ⟨ok', h3, h4⟩ := hex k ok hk
      obtain ⟨l, h5, h6, h7⟩ := h.inj j k q oj' ok' h1 h3 hqj hqk hne
      exact ⟨l, by rw [← h2]; exact h5, by rw [← h4]; exact h6, h7⟩
    · intro j o l hj hlj
      by_cases e : j = i
      · subst e; rw [hself] at hj; cases hj
        exact ⟨j, j, hlines l hlj, Nat.le_refl _⟩
      · obtain ⟨h1, h2⟩ := hother j o e hj
        obtain ⟨fl, tp, h3, h4⟩ := h.tip j o l h1 hlj
        have : ln ≠ some l := fun e' => h2 l e' hlj
        exact ⟨fl, tp, by rw [hlines' l this]; exact h3, h4⟩
    · intro j c' t'' l hj
      obtain ⟨c2, t2, h1⟩ := hroot j c' t'' l hj
      exact h.root j c2 t2 l h1
    · intro j k cj tj ck tk l hj hk hjk
      have hex : ∀ m cm tm, H'.get m = some (.cells cm tm (some l)) → ∃ c0 t0, H.get m = some (.cells c0 t0 (some l)) ∧ c0.size = cm.size := by
        intro m cm tm hm
        by_cases e : m = i
        · subst e; rw [hself] at hm; cases hm; exact ⟨_, _, hg, by rw [Cells.size_setN]⟩
        · exact ⟨cm, tm, (hother m _ e hm).1, rfl⟩
      obtain ⟨c1, t1, h1, h2⟩ := hex j cj tj hj
      obtain ⟨c2, t2, h3, h4⟩ := hex k ck tk hk
      have := h.mono j k c1 t1 c2 t2 l h1 h3 hjk
      omega
    · refine ⟨fun j c' t' l hj => ?_, fun j hj => (hobjs j).2 (h.wf.clean j (by omega))⟩
      obtain ⟨c2, t2, h1⟩ := hroot j c' t' l hj
      have h2 := h.wf.root j c2 t2 l h1
      cases h3 : H'.objs.get l with
      | some _ => rfl
      | none => rw [(hobjs l).1 h3] at h2; exact h2
    · intro q hq hn
      refine setB_other _ fun e => ?_
      subst e
      exact hn i _ hg hr
    · intro j o q hj hq _
      by_cases e : j = i
      · subst e; exact ⟨j, _, hg, hq⟩
      · exact ⟨j, o, (hother j o e hj).1, hq⟩
  unfold Heap.write at hw
  split at hw
  · rename_i c t hg
    split at hw
    · rename_i hc
      cases hw
      have hobj := Heap.get_of_objs hg
      refine main c t none hg hc.1 hc.2 rfl (by simp [Heap.get, Heap.setAt, Tr.get_set]) ?_ (by simp) (fun l _ => rfl) ?_ ?_
      · intro j o hne hj
        refine ⟨?_, by simp⟩
        unfold Heap.get Heap.setAt at hj
        simp only [Tr.get_set, hne, if_false] at hj
        exact hj
      · intro j c' t' l hj
        simp only [Heap.setAt, Tr.get_set] at hj
        split at hj
        · simp at hj
        · exact ⟨_, _, hj⟩
      · intro j
        simp only [Heap.setAt, Tr.get_set]
        split
        · rename_i e; rw [e, hobj]; simp
        · exact Iff.rfl
    · cases hw
  · rename_i c t l hg
    split at hw
    · rename_i fl tp hlg
      split at hw
      · rename_i htp
        subst htp
        split at hw
        · rename_i hc
          cases hw
          have hobj := Heap.get_of_objs hg
          refine main c t (some l) hg hc.1 hc.2 rfl (by simp [Heap.get, Tr.get_set]) ?_ ?_ ?_ ?_ ?_
          · intro j o hne hj
            have hj0 := Heap.get_of_objs hj
            simp only [Tr.get_set, hne, if_false] at hj0
            unfold Heap.get at hj
            simp only [Tr.get_set, hne, if_false] at hj
            split at hj
            · rename_i c' t' l' e
              by_cases el : l' = l
              · subst el
                simp only [if_true] at hj
                split at hj
                · rename_i hge
                  -- it is the tip, and j is not
                  exfalso
                  have hjv : H.get j = some (.cells c' t' (some l')) := by
                    unfold Heap.get
                    rw [e]
                    simp only [hlg]
                    rw [if_pos]
                    -- floor ≤ tip ≤ j
                    have := Heap.get_of_objs hg
                    unfold Heap.get at hg
                    rw [this] at hg
                    simp only [hlg] at hg
                    split at hg
                    · omega
                    · cases hg
                  obtain ⟨f2, t2, h1, h2⟩ := h.tip j _ l' hjv rfl
                  rw [hlg] at h1
                  cases h1
                  omega
                · cases hj
              · rw [if_neg el] at hj
                refine ⟨?_, ?_⟩
                · unfold Heap.get; rw [e]; exact hj
                · intro q hq; cases hq
                  split at hj
                  · split at hj
                    · cases hj; simp [AObj.line]; exact el
                    · cases hj
                  · cases hj
            · rename_i hno
              refine ⟨?_, ?_⟩
              · unfold Heap.get
                split
                · rename_i c' t' l' e; exact absurd e (hno c' t' l')
                · exact hj
              · intro q hq
                cases o <;> simp [AObj.line]
                rename_i c' t' ln'
                intro e
                subst e
                exact hno _ _ _ hj
          · intro q hq; cases hq; simp [Tr.get_set]
          · intro q hq
            simp only [Tr.get_set]
            rw [if_neg (fun e => hq (by rw [e]))]
          · intro j c' t' l' hj
            simp only [Tr.get_set] at hj
            split at hj
            · rename_i e; subst e; cases hj; exact ⟨_, _, hobj⟩
            · exact ⟨_, _, hj⟩
          · intro j
            simp only [Tr.get_set]
            split
            · rename_i e; rw [e, hobj]; simp
            · exact Iff.rfl
        · cases hw
      · cases hw
    · cases hw
  · cases hw
end Go.Proofs.YtjfnhdiimibmiaaDoor.Sx

/- Operations that make one block. -/
namespace Go.Proofs.YtjfnhdiimibmiaaDoor.Sx
variable {comp : Nat → Code → Option SC} {P : Program} {W : World} {μ : Emb} {H : Heap} {w : World} {A : Tm} {a : Act} {v : AV}

theorem CR.lst {s : Nat} (hs : s = 0) {cs : List AV} {rc : Array Value} (h : VRL μ cs rc.toList) : CR μ s (.lst cs) rc := by
  subst hs
  exact ⟨by have := h.length; simp only [Cells.size]; simp at this; omega, fun j v hj => by obtain ⟨v', h1, h2⟩ := h.get hj; exact ⟨v', by simpa using h1, h2⟩⟩
theorem Emb.add_sh (μ : Emb) (i r n : Nat) : (μ.add i r n).sh i = 0 := by simp [Emb.add]

theorem flat_get {α : Type} (z : List α) : ∀ (n i : Nat), (List.replicate n z).flatten[i]? = if i < n * z.length then z[i % z.length]? else none := by
  intro n
  induction n with
  | zero => intro i; simp
  | succ n ih =>
    intro i
    rw [List.replicate_succ, List.flatten_cons, Nat.succ_mul]
    by_cases h : i < z.length
    · rw [List.getElem?_append_left h, if_pos (by omega), Nat.mod_eq_of_lt h]
    · rw [List.getElem?_append_right (by omega), ih]
      by_cases h2 : i < n * z.length + z.length
      · rw [if_pos (by omega), if_pos h2]
        congr 1
        rw [← Nat.mod_eq_sub_mod (by omega)]
      · rw [if_neg (by omega), if_neg h2]

/-- Rows of zero values. -/
theorem zeros_get {z' : Array Value} {n i : Nat} (h : i < n) : (((Array.range n).map (z'[· % z'.size]!)) : Array Value)[i]? = some (z'[i % z'.size]!) := by
  simp [h]
theorem zeros_VRL {z : List AV} {z' : Array Value} (hz : VRL μ z z'.toList) (n : Nat) (hp : 0 < z.length) : VRL μ (zerosL z n) ((Array.range (n * z.length)).map (z'[· % z'.size]!)).toList := by
  have hl := hz.length
  refine VRL.of_get ?_ fun i x y hx hy => ?_
  · simp [zerosL]
  · unfold zerosL at hx
    rw [flat_get] at hx
    split at hx
    · rename_i hlt
      have hm : i % z.length < z.length := Nat.mod_lt _ hp
      obtain ⟨y', h1, h2⟩ := hz.get hx
      have h3 : (((Array.range (n * z.length)).map (z'[· % z'.size]!)) : Array Value)[i]? = some (z'[i % z'.size]!) := zeros_get hlt
      have h4 : y = z'[i % z'.size]! := by
        have : (((Array.range (n * z.length)).map (z'[· % z'.size]!)) : Array Value)[i]? = some y := by rw [← Array.getElem?_toList]; exact hy
        rw [h3] at this; cases this; rfl
      have hsz : z'.size = z.length := by simpa using hl
      have h5 : z'[i % z'.size]! = y' := by
        rw [hsz]
        have : z'[i % z.length]? = some y' := by simpa using h1
        rw [getElem!_def, this]
      rw [h4, h5]; exact h2
    · cases hx
theorem mkCells_CR {z : List AV} {z' : Array Value} (hz : VRL μ z z'.toList) (n : Nat) (hp : 0 < z.length) {s : Nat} (hs : s = 0) : CR μ s (mkCells z n) ((Array.range (n * z.length)).map (z'[· % z'.size]!)) := by
  subst hs
  unfold mkCells
  split
  · exact CR.lst rfl (zeros_VRL hz n hp)
  · refine ⟨by simp [Cells.size], fun j v hj => ?_⟩
    rw [Nat.zero_add]
    simp only [Cells.get, Tr.get_e] at hj
    split at hj
    · rename_i hlt
      have hm : j % z.length < z.length := Nat.mod_lt _ hp
      simp only [Option.some.injEq] at hj
      rw [List.getElem?_eq_getElem hm] at hj
      simp at hj
      obtain ⟨y', h1, h2⟩ := hz.get (i := j % z.length) (v := v) (by rw [List.getElem?_eq_getElem hm, hj])
      refine ⟨_, zeros_get hlt, ?_⟩
      have hsz : z'.size = z.length := by simpa using hz.length
      have h5 : z'[j % z'.size]! = y' := by
        rw [hsz]
        have : z'[j % z.length]? = some y' := by simpa using h1
        rw [getElem!_def, this]
      rw [h5]; exact h2
    · cases hj

/-- What an operation that makes one block comes to. -/
def Makes (comp : Nat → Code → Option SC) (P : Program) (μ : Emb) (w : World) (a : Act) (o : Oper) (id : Nat) (ob : AObj) (v : AV) : Prop :=
  ∃ O n v', (execOp a.eval o).run P w = .ok (.value v') { w with heap := w.heap.push O, drawn := n } ∧ (∀ l, ob.line = some l → l = id) ∧ OR comp (μ.add id w.heap.size (objSize O)) id ob O ∧ VR (μ.add id w.heap.size (objSize O)) v v'

theorem Makes.mk {id : Nat} {o : Oper} {ob : AObj} {O : Obj} (hl : ∀ l, ob.line = some l → l = id) {v' : Value} {n : Nat}
    (hr : (execOp a.eval o).run P w = .ok (.value v') { w with heap := w.heap.push O, drawn := n }) (hO : OR comp (μ.add id w.heap.size (objSize O)) id ob O) (hv : VR (μ.add id w.heap.size (objSize O)) v v') : Makes comp P μ w a o id ob v :=
  ⟨O, n, v', hr, hl, hO, hv⟩

theorem zeroV_noUnk {t : TypeId} {z : AV} (h : zeroV P t = some z) : noUnk z = true := by
  obtain ⟨z', _, hz2, _⟩ := run_zeroV h
  cases z <;> first | rfl | skip
  exfalso
  have : ∀ n v, constAV n v ≠ some .unk := by
    intro n v h
    cases n with
    | zero => simp [constAV] at h
    | succ n => unfold constAV at h; split at h <;> simp at h
  exact this _ _ hz2
theorem zeroL_spec {t : TypeId} {z : List AV} (h : zeroL P t = some z) : ∃ z', (∀ w, (zeroValue t).run P w = .ok z' w) ∧ (∀ μ : Emb, VRL μ z z'.cells.toList) ∧ ∃ i, P.info? t = some i ∧ i.zero = some z' := by
  unfold zeroL at h
  obtain ⟨zv, hz, e⟩ := map_some h
  subst e
  obtain ⟨z', hz1, hz2, hi⟩ := run_zeroV hz
  exact ⟨z', hz1, fun μ => (constAV_VR μ _ _ _ hz2).cells (zeroV_noUnk hz), hi⟩

theorem a_box {o : Oper} {t : TypeId} {xv : AV} {xr : Value} {id : Nat} (hn : μ.blk id = none) (hr : VR μ xv xr) (hu : noUnk xv = true) (ho : (execOp a.eval o).run P w = .ok (.value (.pointer (some ⟨w.heap.size, 0, none⟩))) { w with heap := w.heap.push (.cells xr.cells t) }) :
    Makes comp P μ w a o id (.cells (.lst xv.cells) t none) (.ptr (some ⟨.own id, 0⟩)) := by
  have hle : μ.le (μ.add id w.heap.size (objSize (.cells xr.cells t))) := Emb.le_add hn
  refine Makes.mk (O := .cells xr.cells t) (n := w.drawn) (by simp [AObj.line]) ho ?_ (.ptr ⟨by simp [RR, Emb.add], by simp [shR, Emb.add], rfl⟩)
  refine ⟨rfl, CR.lst (Emb.add_sh _ _ _ _) ((hr.le hle).cells hu), by simp [Emb.add, objSize], ?_⟩
  intro o' _ hh; simp at hh

theorem evA_run {o : Oper} {ak : AK} {id : Nat} {ob : AObj} (hn : μ.blk id = none) (hA : TmR μ A a.tmps) (hk : compK P o = some (.a ak)) (hv : evA A id ak = some (ob, v)) : Makes comp P μ w a o id ob v := by
  unfold compK at hk
  split at hk <;> try (obtain ⟨x', hx, e⟩ := map_some hk; cases e; done)
  · split at hk <;> cases hk
  · -- alloc
    rename_i t hop
    split at hk
    · rename_i z hz
      cases hk
      obtain ⟨z', hz1, hz2, _⟩ := run_zeroV hz
      have hzr : VR μ z z' := constAV_VR μ _ _ _ hz2
      have hu := zeroV_noUnk hz
      simp only [evA, evX] at hv
      have : v = .ptr (some ⟨.own id, 0⟩) ∧ ob = .cells (.lst z.cells) t none := by
        cases z <;> simp [noUnk] at hu <;> simp at hv <;> exact ⟨hv.2.symm, hv.1.symm⟩
      obtain ⟨rfl, rfl⟩ := this
      refine a_box hn hzr hu ?_
      simp only [execOp, hop, Instr.alloc, Sem.run_bind, hz1, Result.andThen_ok, newVar, newRow, run_newObj, Sem.run_pure]
    · cases hk
  · -- box
    rename_i t x hop
    obtain ⟨x', hx, e⟩ := map_some hk
    cases e
    have rx := evX_VR (μ := μ) hA hx
    simp only [evA] at hv
    generalize evX A x' = xv at rx hv
    have hu : noUnk xv = true := by cases xv <;> first | rfl | simp at hv
    have : v = .ptr (some ⟨.own id, 0⟩) ∧ ob = .cells (.lst xv.cells) t none := by
      cases xv <;> simp [noUnk] at hu <;> simp at hv <;> exact ⟨hv.2.symm, hv.1.symm⟩
    obtain ⟨rfl, rfl⟩ := this
    refine a_box hn rx hu ?_
    simp only [execOp, hop, Instr.box, newVar, newRow, Sem.run_bind, run_newObj, Result.andThen_ok, Sem.run_pure]
  · split at hk
    · split at hk
      · split at hk <;> cases hk
      · cases hk
    · cases hk
  · -- buildSlice
    rename_i t n ps hop
    split at hk
    · rename_i e hu
      split at hk
      · rename_i z s hz hs
        split at hk
        · rename_i l hl
          split at hk
          · rename_i hs0
            cases hk
            simp only [evA] at hv
            split at hv
            · rename_i cs hcs
              split at hv
              · rename_i hc
                cases hv
                obtain ⟨hc1, hc2⟩ := hc
                obtain ⟨z', hz1, hzr, _⟩ := zeroL_spec hz
                have hsz : z'.cells.size = s := by have := (hzr μ).length; simp at this; omega
                have hzz := zeros_VRL (hzr μ) n (by omega)
                rw [hc2] at hzz
                obtain ⟨g1, g2⟩ := compParts_spec (A := A) (a := a) (μ := μ) hl hA
                obtain ⟨cs', hf1, hf2⟩ := fill_VRL (fun i => some (i * s, s)) ((ps.map fun (i, x) => (i, a.eval x)).toList) _ ((Array.range (n * s)).map (z'.cells[· % z'.cells.size]!)) _ cs hzz hcs g1 g2
                have hle : μ.le (μ.add id w.heap.size (objSize (.cells cs' e))) := Emb.le_add hn
                refine Makes.mk (O := .cells cs' e) (n := w.drawn) (by simp [AObj.line]) (v' := .slice (some ⟨w.heap.size, 0, none⟩) n n) ?_ ?_ (.sl ⟨by simp [RR, Emb.add], by simp [shR, Emb.add], rfl⟩ rfl)
                · simp only [execOp, hop, Instr.buildSlice, Sem.run_bind, run_underlying hu, run_sizeT hs, Result.andThen_ok]
                  rw [if_neg (by omega)]
                  by_cases h0 : n * s = 0
                  · simp only [h0, if_true, Sem.run_pure]
                    have hcs0 : (Array.range 0).map (z'.cells[· % z'.cells.size]!) = (Array.range 0).map ((#[] : Array Value)[· % (#[] : Array Value).size]!) := by simp
                    rw [h0] at hf1
                    rw [hcs0] at hf1
                    simp only [hf1, newRow, run_newObj, Sem.run_bind, Result.andThen_ok, Sem.run_pure]
                  · simp only [if_neg h0, Sem.run_pure, Sem.run_bind, hz1, Result.andThen_ok]
                    simp only [hf1, newRow, run_newObj, Sem.run_bind, Result.andThen_ok, Sem.run_pure]
                · refine ⟨rfl, CR.lst (Emb.add_sh _ _ _ _) (hf2.le hle), by simp [Emb.add, objSize], ?_⟩
                  intro o' _ hh; simp at hh
              · cases hv
            · cases hv
          · cases hk
        · cases hk
      · cases hk
    · cases hk
  · split at hk <;> cases hk
  · split at hk <;> cases hk
  · split at hk
    · split at hk
      · cases hk
      · cases hk
      · split at hk <;> cases hk
    · cases hk
  · -- convert
    rename_i s d x hop
    split at hk
    · cases hk
    · cases hk
    · rename_i e x' hs hd hx
      split at hk
      · rename_i hm
        cases hk
        have he : P.underlying e = some (.int .u8) := by
          cases hq : P.underlying e with
          | none => simp [hq] at hm
          | some q => cases q <;> simp [hq] at hm; rename_i k; cases k <;> simp at hm; rfl
        have rx := evX_VR (μ := μ) hA hx
        simp only [evA] at hv
        split at hv
        · rename_i sl e1
          rw [e1] at rx
          cases hxv : a.eval x <;> rw [hxv] at rx <;> cases rx
          rename_i str
          split at hv
          · rename_i hlen
            cases hv
            let q : Question := .appendCap str.size 0 e
            let cap : Nat := q.cut (w.tape w.drawn q)
            have hcap : str.size ≤ cap := by simp [cap, q, Question.cut]
            let arr : Array Value := (str.data.map fun b => Value.int .u8 b.toNat) ++ Array.replicate (cap - str.size) (.int .u8 0)
            have harr : arr.size = cap := by simp [arr]; omega
            have hle : μ.le (μ.add id w.heap.size (objSize (.cells arr e (cap, cap + 1)))) := Emb.le_add hn
            refine Makes.mk (O := .cells arr e (cap, cap + 1)) (n := w.drawn + 1) (by simp [AObj.line]) (v' := .slice (some ⟨w.heap.size, 0, none⟩) str.size cap) ?_ ?_ ?_
            · have hq : (choose q).run P w = .ok cap { w with drawn := w.drawn + 1 } := by
                rw [run_choose]; simp [q, Question.forced, cap]
              simp only [execOp, hop, hxv, convert, Sem.run_bind, run_underlying hs, run_underlying hd, Result.andThen_ok, run_underlying he, Conv.stringToBytes]
              rw [show Question.appendCap str.size 0 e = q from rfl, hq]
              simp only [Result.andThen_ok, newRow, Sem.run_bind, run_newObj, Sem.run_pure, markStringish, run_shape]
              have hsh : ({ w with heap := w.heap.push (.cells arr e), drawn := w.drawn + 1 } : World).shape? w.heap.size = some (e, cap) := by
                simp [World.shape?, harr]
              rw [show (str.data.map fun b => Value.int .u8 b.toNat) ++ Array.replicate (cap - str.size) (.int .u8 0) = arr from rfl, hsh]
              simp only [run_freeze, Result.andThen_ok]
              congr 1
              refine World.ext_heap ?_ rfl rfl rfl rfl
              simp only [World.freeze, Nat.one_ne_zero, if_false]
              apply Array.ext_getElem?
              intro k
              simp only [Array.getElem?_modify, Array.getElem?_push]
              by_cases ek : k = w.heap.size
              · subst ek; simp
              · rw [if_neg (fun e => ek e.symm), if_neg ek, if_neg ek]
            · refine ⟨rfl, ⟨by simp [Cells.size, harr, Emb.add_sh]; exact hcap, fun j v hj => ?_⟩, by simp [Emb.add, objSize], ?_⟩
              · simp only [Cells.get, List.getElem?_map, Option.map_eq_some_iff] at hj
                obtain ⟨b, hb, rfl⟩ := hj
                refine ⟨.int .u8 b.toNat, ?_, .int _ _⟩
                have hb' : str.data[j]? = some b := by rw [← Array.getElem?_toList]; exact hb
                have hj2 : j < str.data.size := (Array.getElem?_eq_some_iff.1 hb').1
                rw [Emb.add_sh, Nat.zero_add]
                show arr[j]? = _
                simp only [arr]
                rw [Array.getElem?_append_left (by simpa using hj2), Array.getElem?_map, hb']; rfl
              · intro o' ho hh
                simp only [harr] at ho
                simp at hh; omega
            · have := VR.sl (μ := μ.add id w.heap.size (objSize (.cells arr e (cap, cap + 1)))) (a := ⟨.own id, 0⟩) (a' := ⟨w.heap.size, 0, none⟩) (l := str.size) (cap := .opn 1) (c' := cap) ⟨by simp [RR, Emb.add], by simp [shR, Emb.add], rfl⟩ ⟨id, rfl, by simp [Emb.add, objSize, harr], hcap⟩
              simpa using this
          · cases hv
        · cases hv
      · cases hk
    · split at hk <;> cases hk
    · cases hk
  · split at hk <;> cases hk
  · split at hk <;> cases hk
  · -- makeMap
    rename_i t hop
    cases hk
    cases hv
    refine Makes.mk (O := .map #[] 0) (n := w.drawn) (by simp [AObj.line]) (v' := .map (some w.heap.size)) ?_ .nil (.map (by simp [RR, Emb.add]))
    simp only [execOp, hop, Instr.makeMap, Option.map_none, Sem.run_bind, run_newObj, Result.andThen_ok, Sem.run_pure]
  · -- makeSlice
    rename_i t l c hop
    split at hk
    · rename_i e hu
      split at hk
      · rename_i z s b l' c' hz hs hb hl hc
        cases hk
        have rl := evX_VR (μ := μ) hA hl
        have rc := evX_VR (μ := μ) hA hc
        simp only [evA] at hv
        split at hv
        · rename_i k1 ln k2 cn e1 e2
          rw [e1] at rl
          rw [e2] at rc
          cases hlv : a.eval l <;> rw [hlv] at rl <;> cases rl
          cases hcv : a.eval c <;> rw [hcv] at rc <;> cases rc
          split at hv
          · rename_i hcond
            obtain ⟨g1, g2, g3, g4, g5, g6⟩ := hcond
            cases hv
            obtain ⟨z', hz1, hzr, _⟩ := zeroL_spec hz
            obtain ⟨ti, hti, hbt, _⟩ := run_bytesT (w := w) hb
            have hwl : IntKind.i64.wrap ln = ln := by simp [IntKind.wrap, IntKind.bits, IntKind.signed]; omega
            have hwc : IntKind.i64.wrap cn = cn := by simp [IntKind.wrap, IntKind.bits, IntKind.signed]; omega
            have hcr := mkCells_CR (hzr (μ.add id w.heap.size (objSize (.cells ((Array.range (cn.toNat * s)).map (z'.cells[· % z'.cells.size]!)) e)))) cn.toNat (by omega) (Emb.add_sh μ id w.heap.size (objSize (.cells ((Array.range (cn.toNat * s)).map (z'.cells[· % z'.cells.size]!)) e)))
            rw [g5] at hcr
            refine Makes.mk (O := .cells ((Array.range (cn.toNat * s)).map (z'.cells[· % z'.cells.size]!)) e) (n := w.drawn) (by simp [AObj.line]) (v' := .slice (some ⟨w.heap.size, 0, none⟩) ln.toNat cn.toNat) ?_ ?_ (.sl ⟨by simp [RR, Emb.add], by simp [shR, Emb.add], rfl⟩ rfl)
            · have hn0 : ¬ (IntKind.i64.wrap cn < 0 ∨ (b : Int) * IntKind.i64.wrap cn > 2 ^ 48) := by rw [hwc]; omega
              simp only [execOp, hop, hlv, hcv, Instr.makeSlice, Sem.run_bind, run_underlying hu, Result.andThen_ok, asInt, asIntOf, Sem.run_pure, hti, hbt, hwl, hwc]
              have hcnd : (decide (cn < 0) || decide ((b : Int) * cn > 2 ^ 48) || decide (ln < 0) || decide (ln > cn)) = false := by
                rw [Bool.or_eq_false_iff, Bool.or_eq_false_iff, Bool.or_eq_false_iff]
                refine ⟨⟨⟨?_, ?_⟩, ?_⟩, ?_⟩ <;> rw [decide_eq_false_iff_not] <;> omega
              rw [if_neg (by rw [hcnd]; simp)]
              simp only [Sem.run_bind, run_askRoom, Result.andThen_ok, run_sizeT hs]
              by_cases h0 : cn.toNat * s = 0
              · have hcs0 : (Array.range 0).map (z'.cells[· % z'.cells.size]!) = (Array.range 0).map ((#[] : Array Value)[· % (#[] : Array Value).size]!) := by simp
                rw [if_pos h0, h0, hcs0]
                simp only [Sem.run_bind, Sem.run_pure, Result.andThen_ok, newRow, run_newObj]
              · rw [if_neg h0]
                simp only [Sem.run_bind, hz1, Sem.run_pure, Result.andThen_ok, newRow, run_newObj]
            · refine ⟨rfl, hcr, by simp [Emb.add, objSize], ?_⟩
              intro o' _ hh; simp at hh
          · cases hv
        · cases hv
      · cases hk
    · cases hk
  all_goals ((repeat' split at hk) <;> first | (cases hk; done) | (obtain ⟨_, _, e⟩ := map_some hk; cases e; done))
end Go.Proofs.YtjfnhdiimibmiaaDoor.Sx

/- Operations that read, the whole; deeds: stores, maps. -/
namespace Go.Proofs.YtjfnhdiimibmiaaDoor.Sx
variable {comp : Nat → Code → Option SC} {P : Program} {W : World} {μ : Emb} {H : Heap} {w : World} {A : Tm} {a : Act} {v : AV}

theorem evR_run {o : Oper} {rk : RK} (h : HR comp W μ H w) (hk : compK P o = some (.r rk)) (hA : TmR μ A a.tmps) (hv : evR W H A rk = some v) : Yields P μ a o v w := by
  unfold compK at hk
  cases hop : o.op with
  | load t x =>
    simp only [hop] at hk
    split at hk
    · cases hk; exact r_load h hop ‹_› hA ‹_› hv
    · cases hk
  | convert s d x =>
    simp only [hop] at hk
    split at hk
    · cases hk
    · cases hk
    · split at hk <;> cases hk
    · rename_i e x' hs hd hx
      split at hk
      · rename_i hm
        cases hk
        have he : P.underlying e = some (.int .u8) := by
          cases hq : P.underlying e with
          | none => simp [hq] at hm
          | some q => cases q <;> simp [hq] at hm; rename_i k; cases k <;> simp at hm; rfl
        exact r_b2s h hop hs hd he hA hx hv
      · cases hk
    · cases hk
  | lookup t m k ok =>
    simp only [hop] at hk
    split at hk
    · split at hk
      · cases hk; exact r_look h hop ‹_› ‹_› ‹_› hA ‹_› ‹_› hv
      · cases hk
    · cases hk
  | call c =>
    simp only [hop] at hk
    cases hb : c.callee with
    | builtin b =>
      cases b with
      | len =>
        simp only [hb] at hk
        split at hk
        · rename_i t x' h0 hx
          split at hk
          · cases hk
          · cases hk
          · cases hk
          · split at hk <;> cases hk
          · cases hk; exact r_lenM h hop hb h0 ‹_› hx hA hv
          · cases hk
        · cases hk
      | _ => simp only [hb] at hk; ((repeat' split at hk) <;> first | contradiction | (cases hk; done) | (obtain ⟨_, _, e⟩ := map_some hk; cases e; done))
    | _ => simp only [hb] at hk; ((repeat' split at hk) <;> first | contradiction | (cases hk; done) | (obtain ⟨_, _, e⟩ := map_some hk; cases e; done))
  | _ => simp only [hop] at hk; ((repeat' split at hk) <;> first | contradiction | (cases hk; done) | (obtain ⟨_, _, e⟩ := map_some hk; cases e; done))

/-- A block that is in no line becomes another. -/
theorem HR.setObj (h : HR comp W μ H w) {i : Nat} {o o' : AObj} (hg : H.get i = some o) (hl : o.line = none) (hl' : o'.line = none) {r : Nat} (hr : μ.blk i = some r) {O : Obj} (hO : OR comp μ i o' O) :
    HR comp W μ (H.setAt i o') (setB w r O) ∧ Step μ H w μ (H.setAt i o') (setB w r O) := by
  have hlt := (h.dom i r hr).2
  have hgo := Heap.get_of_objs hg
  have hin : i < H.next := by
    rcases Nat.lt_or_ge i H.next with h' | h'
    · exact h'
    · rw [h.wf.clean i h'] at hgo; cases hgo
  have hself : (H.setAt i o').get i = some o' := by
    cases o' <;> simp [AObj.line] at hl' <;> simp [Heap.get, Heap.setAt, Tr.get_set, hl']
  have hother : ∀ j, j ≠ i → (H.setAt i o').get j = H.get j := by
    intro j hj; simp [Heap.get, Heap.setAt, Tr.get_set, hj]
  have hno : ∀ j o2, j ≠ i → H.get j = some o2 → μ.blk j ≠ some r := by
    intro j o2 hne hj hb
    obtain ⟨l, h1, _⟩ := h.inj i j r _ _ hg hj hr hb (fun e => hne e.symm)
    rw [hl] at h1; cases h1
  refine ⟨⟨h.os, h.tape, h.output, by simp [setB]; exact h.size, ?_, ?_, h.fresh, ?_, ?_, ?_, ?_, ?_, h.wf.set (Nat.le_refl _) hin (fun l e => by rw [hl'] at e; cases e)⟩, ⟨⟨Emb.le_refl μ, by simp [setB], ?_, ?_⟩, Nat.le_refl _, fun _ _ => rfl, ?_⟩⟩
  · intro b hb
    rw [setB_other _ (by have := (h.dom i r hr).1; omega)]; exact h.old b hb
  · intro j q hj; simp only [setB, Array.size_setIfInBounds]; exact h.dom j q hj
  · intro j o2 hj
    by_cases e : j = i
    · subst e; rw [hself] at hj; cases hj
      exact ⟨r, O, hr, setB_self _ hlt, hO⟩
    · rw [hother j e] at hj
      obtain ⟨q, Q, h1, h2, h3⟩ := h.obj j o2 hj
      have : q ≠ r := fun e' => hno j o2 e hj (by rw [h1, e'])
      exact ⟨q, Q, h1, by rw [setB_other _ this]; exact h2, h3⟩
  · intro j k q oj ok hj hk hqj hqk hne
    have hex : ∀ m om, (H.setAt i o').get m = some om → ∃ o2, H.get m = some o2 ∧ o2.line = om.line := by
      intro m om hm
      by_cases e : m = i
      · subst e; rw [hself] at hm; cases hm; exact ⟨_, hg, by rw [hl, hl']⟩
      · rw [hother m e] at hm; exact ⟨om, hm, rfl⟩
    obtain ⟨o1, h1, h2⟩ := hex j oj hj
    obtain ⟨o2, h3, h4⟩ := hex k ok hk
    obtain ⟨l, h5, h6, h7⟩ := h.inj j k q o1 o2 h1 h3 hqj hqk hne
    exact ⟨l, by rw [← h2]; exact h5, by rw [← h4]; exact h6, h7⟩
  · intro j o2 l hj hlj
    by_cases e : j = i
    · subst e; rw [hself] at hj; cases hj; rw [hl'] at hlj; cases hlj
    · rw [hother j e] at hj; exact h.tip j o2 l hj hlj
  · intro j c t l hj
    simp only [Heap.setAt, Tr.get_set] at hj
    split at hj
    · cases hj; simp [AObj.line] at hl'
    · exact h.root j c t l hj
  · intro j k cj tj ck tk l hj hk hjk
    have hne : ∀ m c t, (H.setAt i o').get m = some (.cells c t (some l)) → H.get m = some (.cells c t (some l)) := by
      intro m c t hm
      by_cases e : m = i
      · subst e; rw [hself] at hm; cases hm; simp [AObj.line] at hl'
      · rw [hother m e] at hm; exact hm
    exact h.mono j k cj tj ck tk l (hne _ _ _ hj) (hne _ _ _ hk) hjk
  · intro q hq hn
    refine setB_other _ fun e => ?_
    subst e
    exact hn i _ hg hr
  · intro j o2 q hj hq _
    by_cases e : j = i
    · subst e; exact ⟨j, _, hg, hq⟩
    · rw [hother j e] at hj; exact ⟨j, o2, hj, hq⟩
  · intro j _ hj
    simp only [Heap.setAt, Tr.get_set]
    rw [if_neg (fun e => by rw [e, hgo] at hj; cases hj)]; exact hj

/-- What a deed comes to. -/
def Acts (comp : Nat → Code → Option SC) (P : Program) (W : World) (μ : Emb) (H : Heap) (w : World) (a : Act) (o : Oper) (v : AV) (H' : Heap) : Prop :=
  ∃ μ' w' nx v', (execOp a.eval o).run P w = .ok nx w' ∧ (nx = .value v' ∨ (nx = .skip ∧ v' = undef)) ∧ HR comp W μ' H' w' ∧ Step μ H w μ' H' w' ∧ VR μ' v v'

theorem e_store {o : Oper} {t : TypeId} {n : Nat} {x y : Operand} {x' y' : SX} {H' : Heap} (h : HR comp W μ H w) (hop : o.op = .store t x y) (hn : sizeT P t = some n) (hA : TmR μ A a.tmps) (hx : compX x = some x') (hy : compX y = some y')
    (hv : storeA H n (evX A x') (evX A y') = some H') : Acts comp P W μ H w a o (.tup []) H' := by
  have rx := evX_VR (μ := μ) hA hx
  have ry := evX_VR (μ := μ) hA hy
  generalize evX A x' = xv at rx hv
  generalize evX A y' = yv at ry hv
  unfold storeA at hv
  split at hv
  · rename_i i off
    split at hv
    · rename_i hu
      split at hv
      · rename_i hl
        generalize hxv : a.eval x = xr at rx
        cases rx
        rename_i d' hd
        have hc := ry.cells hu
        obtain ⟨r, rc, t', fz, hr, hb, hoff, hfz, hone, h1, h2, _⟩ := h.write hv hc
        refine ⟨μ, _, .skip, undef, ?_, .inr ⟨rfl, rfl⟩, h1, h2, .tup .nil⟩
        have hblk : d'.block = r := by
          have : μ.blk i = some d'.block := hd.rf
          rw [hr] at this; cases this; rfl
        have hsz : (a.eval y).cells.size = n := by
          have := hc.length; simp at this; omega
        have hoff2 : d'.off = μ.sh i + off := by
          have : d'.off = off + μ.sh i := hd.off
          omega
        have hst := run_storeCells (P := P) hblk hd.spot (a.eval y).cells.toList 0 rc w hb (by omega) hfz hone
        rw [hoff2] at hst
        simp only [execOp, hop, hxv, Instr.storeAt, Instr.sureAddr, Sem.run_bind, Sem.run_pure, Result.andThen_ok, storeVar, run_sizeT hn]
        rw [if_neg (by omega), hst]
        rfl
      · cases hv
    · cases hv
  · cases hv

theorem eqLeaf_true {k : LK} {x y : AV} {v v' : Value} (hx : VR μ x v) (hy : VR μ y v') (h : eqLeaf k x y = some true) (n : Nat) : Instr.sameBits n v v' = true := by
  cases k
  · obtain ⟨kk, m, m', h1, h2, h3⟩ := eqLeaf_i hx hy h
    subst h1; subst h2
    have : m = m' := by simpa using h3.symm
    subst this
    cases n <;> simp [Instr.sameBits]
  · obtain ⟨m, m', h1, h2, h3⟩ := eqLeaf_s hx hy h
    subst h1; subst h2
    have : m = m' := bytes_ext (by simpa using h3.symm)
    subst this
    cases n <;> simp only [Instr.sameBits] <;> (rw [beq_toListBytes]; simp)
  · obtain ⟨m, m', h1, h2, h3⟩ := eqLeaf_b hx hy h
    subst h1; subst h2
    have : m = m' := by simpa using h3.symm
    subst this
    cases n <;> simp [Instr.sameBits]
theorem eqL_true (n : Nat) : ∀ {ls : List LK} {xs ys : List AV} {vs vs' : List Value}, VRL μ xs vs → VRL μ ys vs' → eqL ls xs ys = some true → vs.length = vs'.length ∧ (vs.zip vs').all (fun (x, y) => Instr.sameBits n x y) = true := by
  intro ls
  induction ls with
  | nil =>
    intro xs ys vs vs' hx hy h
    have := eqL_len h
    have e1 : xs = [] := List.eq_nil_of_length_eq_zero this.1
    have e2 : ys = [] := List.eq_nil_of_length_eq_zero this.2
    subst e1; subst e2
    cases hx; cases hy; simp
  | cons k ls ih =>
    intro xs ys vs vs' hx hy h
    cases hx with
    | nil => simp [eqL] at h
    | cons hx1 hx2 =>
      cases hy with
      | nil => simp [eqL] at h
      | cons hy1 hy2 =>
        simp only [eqL] at h
        split at h
        · rename_i he
          obtain ⟨h1, h2⟩ := ih hx2 hy2 h
          refine ⟨by simp [h1], ?_⟩
          rw [List.zip_cons_cons, List.all_cons, h2, Bool.and_true]
          exact eqLeaf_true hx1 hy1 he n
        · split at h <;> cases h
        · cases h
theorem eqKey_true {ks : KS} {x y : AV} {v v' : Value} (hx : VR μ x v) (hy : VR μ y v') (h : eqKey ks x y = some true) : Instr.sameBits 10000 v v' = true := by
  cases ks with
  | leaf k => exact eqLeaf_true hx hy h 10000
  | agg ls =>
    cases hx <;> try (simp [eqKey] at h; done)
    cases hy <;> try (simp [eqKey] at h; done)
    rename_i cs cs' h1 ds ds' h2
    obtain ⟨h3, h4⟩ := eqL_true 9999 h1 h2 h
    show (cs'.size == ds'.size && _) = true
    rw [Bool.and_eq_true]
    exact ⟨by simpa using h3, h4⟩

/-- Where the search ends there is such a key. -/
theorem findK_some {ks : KS} {x : AV} : ∀ {es : List (AV × AV)} {i j : Nat} {v : AV}, findK ks x es i = some (some (j, v)) → ∃ m k, j = i + m ∧ es[m]? = some (k, v) ∧ eqKey ks x k = some true := by
  intro es
  induction es with
  | nil => intro i j v h; simp [findK] at h
  | cons e es ih =>
    intro i j v h
    simp only [findK] at h
    split at h
    · rename_i he; cases h; exact ⟨0, e.1, by omega, by simp, he⟩
    · obtain ⟨m, k, h1, h2, h3⟩ := ih h
      exact ⟨m + 1, k, by omega, by simpa using h2, h3⟩
    · cases h
theorem ER.get {es : List (AV × AV)} {res : List MapEntry} (h : ER μ es res) {m : Nat} {k v : AV} (hm : es[m]? = some (k, v)) : ∃ e, res[m]? = some e ∧ VR μ k e.key ∧ VR μ v e.val := by
  induction h generalizing m with
  | nil => simp at hm
  | cons hk hv hl ih =>
    cases m with
    | zero => simp at hm; obtain ⟨rfl, rfl⟩ := hm; exact ⟨_, by simp, hk, hv⟩
    | succ m => simp at hm; simpa using ih hm
theorem ER.set {es : List (AV × AV)} {res : List MapEntry} (h : ER μ es res) {m : Nat} {k v : AV} {k' v' : Value} (hk : VR μ k k') (hv : VR μ v v') : ER μ (es.set m (k, v)) (res.modify m fun e => { e with key := k', val := v' }) := by
  induction h generalizing m with
  | nil => simp; exact .nil
  | cons hk1 hv1 hl ih =>
    cases m with
    | zero => simp; exact .cons hk hv hl
    | succ m => simp; exact .cons hk1 hv1 ih
theorem ER.snoc {es : List (AV × AV)} {res : List MapEntry} (h : ER μ es res) {k v : AV} {e : MapEntry} (hk : VR μ k e.key) (hv : VR μ v e.val) : ER μ (es ++ [(k, v)]) (res ++ [e]) := by
  induction h with
  | nil => exact .cons hk hv .nil
  | cons hk1 hv1 hl ih => exact .cons hk1 hv1 ih
theorem ER.erase {es : List (AV × AV)} {res : List MapEntry} (h : ER μ es res) (m : Nat) : ER μ (es.eraseIdx m) (res.eraseIdx m) := by
  induction h generalizing m with
  | nil => simp; exact .nil
  | cons hk1 hv1 hl ih =>
    cases m with
    | zero => simp; exact hl
    | succ m => simp; exact .cons hk1 hv1 (ih m)

theorem run_setObjMap {r : Nat} {O : Obj} {res : Array MapEntry} {ck : Nat} (hb : w.heap[r]? = some (.map res ck)) : (setObj r O).run P w = .ok () (setB w r O) := by
  simp [Go.setObj, Sem.run, hb, setB]

theorem e_mupd {o : Oper} {t kt et : TypeId} {ks : KS} {m k y : Operand} {m' k' y' : SX} {H' : Heap} (h : HR comp W μ H w) (hop : o.op = .mapUpdate t m k y) (ht : P.underlying t = some (.map kt et)) (hks : keyT P kt = some ks) (hA : TmR μ A a.tmps)
    (hm : compX m = some m') (hk : compX k = some k') (hy : compX y = some y') (hv : mupdA H ks (evX A m') (evX A k') (evX A y') = some H') : Acts comp P W μ H w a o (.tup []) H' := by
  have rm := evX_VR (μ := μ) hA hm
  have rk := evX_VR (μ := μ) hA hk
  have ry := evX_VR (μ := μ) hA hy
  generalize evX A m' = mv at rm hv
  generalize evX A k' = kv at rk hv
  generalize evX A y' = yv at ry hv
  unfold mupdA at hv
  split at hv
  · rename_i i
    split at hv
    · rename_i es hg
      split at hv
      · rename_i hf
        split at hv
        · rename_i es' hes
          cases hv
          generalize hmv : a.eval m = mr at rm
          cases rm
          rename_i r hr
          have hr : μ.blk i = some r := hr
          obtain ⟨r2, O, h1, h2, h3⟩ := h.obj i _ hg
          rw [hr] at h1; cases h1
          cases O <;> simp only [OR] at h3
          rename_i res ck
          have hg2 : (getObj r).run P w = .ok (.map res ck) w := by simp [getObj, Sem.run, h2]
          have hck := run_checkK (P := P) hks rk hf false w
          unfold updK at hes
          split at hes
          · rename_i j vv hfk
            cases hes
            obtain ⟨r', q1, q2⟩ := run_findKey (P := P) hks rk hf h3 hfk
            cases r' with
            | none => cases q2
            | some q =>
              obtain ⟨j', v'⟩ := q
              obtain ⟨rfl, hvr⟩ := q2
              obtain ⟨mm, kk, e1, e2, e3⟩ := findK_some hfk
              obtain rfl : j = mm := by omega
              obtain ⟨e, he1, he2, he3⟩ := h3.get e2
              have hsb := eqKey_true rk he2 e3
              -- the search asks 'sameBits old new'
              have hsame : Instr.sameBits 10000 e.key (a.eval k) = true := by
                have h5 : eqKey ks kk kv = some true := by
                  have comm : ∀ (lk : LK) (x y : AV) (b : Bool), eqLeaf lk x y = some b → eqLeaf lk y x = some b := by
                    intro lk x y b hb
                    cases lk <;> cases x <;> cases y <;> simp [eqLeaf] at hb ⊢
                    · obtain ⟨p1, p2⟩ := hb; exact ⟨p1.symm, by rw [← p2, Bool.beq_comm]⟩
                    · rw [← hb, Bool.beq_comm]
                    · rw [← hb, Bool.beq_comm]
                  have commL : ∀ (ls : List LK) (xs ys : List AV) (b : Bool), eqL ls xs ys = some b → eqL ls ys xs = some b := by
                    intro ls
                    induction ls with
                    | nil => intro xs ys b hb; cases xs <;> cases ys <;> simp [eqL] at hb ⊢; exact hb
                    | cons l ls ih =>
                      intro xs ys b hb
                      cases xs with
                      | nil => simp [eqL] at hb
                      | cons x xs => cases ys with
                        | nil => simp [eqL] at hb
                        | cons y ys =>
                          simp only [eqL] at hb ⊢
                          cases hq : eqLeaf l x y with
                          | none => simp [hq] at hb
                          | some c =>
                            rw [comm _ _ _ _ hq]
                            cases c with
                            | true => simp [hq] at hb; exact ih _ _ _ hb
                            | false => simp [hq] at hb; simp; exact ⟨⟨hb.1.2, hb.1.1⟩, hb.2⟩
                  cases ks with
                  | leaf lk => exact comm _ _ _ _ e3
                  | agg ls =>
                    cases kv <;> simp [eqKey] at e3
                    cases kk <;> simp [eqKey] at e3 ⊢
                    exact commL _ _ _ _ e3
                exact eqKey_true he2 rk h5
              have hmod : ER μ (es.set j (kv, yv)) (res.modify j fun e => { e with key := a.eval k, val := a.eval y }).toList := by
                rw [Array.toList_modify]; exact h3.set rk ry
              obtain ⟨g1, g2⟩ := h.setObj hg (o' := .map (es.set j (kv, yv))) rfl rfl hr (O := .map (res.modify j fun e => { e with key := a.eval k, val := a.eval y }) ck) hmod
              refine ⟨μ, _, .skip, undef, ?_, .inr ⟨rfl, rfl⟩, g1, g2, .tup .nil⟩
              have hkey : ((res[j]?).map (·.key)).getD (a.eval k) = e.key := by
                have : res[j]? = some e := by rw [← Array.getElem?_toList]; exact he1
                simp [this]
              simp only [execOp, hop, hmv, Instr.mapUpdate, Sem.run_bind, run_underlying ht, Result.andThen_ok, hg2, hck, q1, hkey, Instr.keyThatStays, hsame, if_true, Sem.run_pure, run_setObjMap h2]
          · rename_i hfk
            cases hes
            obtain ⟨r', q1, q2⟩ := run_findKey (P := P) hks rk hf h3 hfk
            cases r' with
            | some q => cases q2
            | none =>
              have hsn : ER μ (es ++ [(kv, yv)]) (res.push { key := a.eval k, val := a.eval y, born := ck }).toList := by
                rw [Array.toList_push]; exact h3.snoc rk ry
              obtain ⟨g1, g2⟩ := h.setObj hg (o' := .map (es ++ [(kv, yv)])) rfl rfl hr (O := .map (res.push { key := a.eval k, val := a.eval y, born := ck }) (ck + 1)) hsn
              refine ⟨μ, _, .skip, undef, ?_, .inr ⟨rfl, rfl⟩, g1, g2, .tup .nil⟩
              simp only [execOp, hop, hmv, Instr.mapUpdate, Sem.run_bind, run_underlying ht, Result.andThen_ok, hg2, hck, q1, run_setObjMap h2, Sem.run_pure]
          · cases hes
        · cases hv
      · cases hv
    · cases hv
  · cases hv
end Go.Proofs.YtjfnhdiimibmiaaDoor.Sx

/- append, copy, delete. -/
namespace Go.Proofs.YtjfnhdiimibmiaaDoor.Sx
variable {comp : Nat → Code → Option SC} {P : Program} {W : World} {μ : Emb} {H : Heap} {w : World} {A : Tm} {a : Act} {v : AV}

theorem run_src {es k : Nat} {ofStr : Bool} {x : AV} {x' : Value} {new : List AV} (hx : VR μ x x') (hs : srcA W H es ofStr x = some (k, new)) (hstr : ofStr = true → es = 1) :
    (∀ w, (Builtin.lenOf x').run P w = .ok k w) ∧ new.length = k * es ∧ ∀ w, HR comp W μ H w → ∃ new', (Builtin.firstCells es k x').run P w = .ok new' w ∧ VRL μ new new'.toList := by
  unfold srcA at hs
  split at hs
  · rename_i s
    cases hs
    have := hstr rfl
    subst this
    cases hx
    rename_i s
    refine ⟨fun w => by simp [Builtin.lenOf], by simp, fun w _ => ⟨_, by simp only [Builtin.firstCells, Sem.run_pure]; rfl, ?_⟩⟩
    have : ((s.extract 0 s.data.toList.length).data.map fun b => Value.int .u8 b.toNat).toList = s.data.toList.map fun b => Value.int .u8 b.toNat := by
      rw [Array.toList_map, extract_str]; simp only [List.take_length, List.drop_zero]
    rw [this]
    exact VRL.map _ fun b _ => .int _ _
  · split at hs
    · rename_i hn
      cases hs
      subst hn
      cases hx
      exact ⟨fun w => rfl, by simp, fun w _ => ⟨#[], rfl, .nil⟩⟩
    · cases hs
  · cases hs
    cases hx
    exact ⟨fun w => rfl, by simp, fun w _ => ⟨#[], by simp [Builtin.firstCells, loadCells, loadCellsFrom], .nil⟩⟩
  · cases hs
    cases hx
    exact ⟨fun w => rfl, by simp, fun w _ => ⟨#[], by simp [Builtin.firstCells, loadCells, loadCellsFrom], .nil⟩⟩
  · split at hs
    · rename_i c hc
      split at hs
      · rename_i l hl
        cases hs
        cases hx
        rename_i d' c' hd hcap
        refine ⟨fun w => rfl, (Cells.getN_get hl).1, fun w h => ?_⟩
        obtain ⟨rc, t', fz, hb, hcr⟩ := h.blk hd.rf hc
        obtain ⟨l', h3, h4, _⟩ := run_loadN (P := P) hb hcr rfl hd.spot hd.off hl
        exact ⟨l'.toArray, by simpa [Builtin.firstCells] using h3, by simpa using h4⟩
      · cases hs
    · cases hs
  · cases hs

section app
variable {at_ : Array TypeId} {ty T U e : TypeId} {es b : Nat} {args : Array Value} {base : Option Addr} {sLen sCap k : Nat} {x' : Value}

/-- There is room: what is appended is written behind. -/
theorem app_room (h0 : at_[0]? = some T) (h1 : at_[1]? = some U) (hT : P.underlying T = some (.slice e))
    (hU : P.underlying U = some .string ∨ ∃ q, P.underlying U = some (.slice q)) (hs : sizeT P e = some es) (a0 : args[0]? = some (.slice base sLen sCap)) (a1 : args[1]? = some x') (hk : ∀ w, (Builtin.lenOf x').run P w = .ok k w)
    (hroom : sLen + k ≤ sCap) {new : Array Value} (hnew : (Builtin.firstCells es k x').run P w = .ok new w) {w' : World} (hst : (match base with | some a => storeCells (a.add (sLen * es)) new.toList | none => pure ()).run P w = .ok () w') :
    (Builtin.append_ at_ ty args).run P w = .ok (.slice base (sLen + k) sCap) w' := by
  rcases hU with hU | ⟨q, hU⟩
  all_goals
    simp only [Builtin.append_, h0, h1, a0, a1, Sem.run_bind, run_underlying hT, Result.andThen_ok, run_sizeT hs, run_underlying hU, Sem.run_pure, Bool.false_eq_true, if_false, hk, if_pos hroom, Bool.not_false, if_true, hnew]
    cases base with
    | none => simp only [Sem.run_pure] at hst ⊢; cases hst; rfl
    | some a => simp only at hst ⊢; simp only [Sem.run_bind, hst, Result.andThen_ok, Sem.run_pure]

/-- There is none: a new row. -/
theorem app_grow (h0 : at_[0]? = some T) (h1 : at_[1]? = some U) (hT : P.underlying T = some (.slice e))
    (hU : P.underlying U = some .string ∨ ∃ q, P.underlying U = some (.slice q)) (hs : sizeT P e = some es) (hb : bytesT P e = some b) (hb0 : 0 < b) {z' : Value} (hz : ∀ w, (zeroValue e).run P w = .ok z' w)
    (a0 : args[0]? = some (.slice base sLen sCap)) (a1 : args[1]? = some x') (hk : ∀ w, (Builtin.lenOf x').run P w = .ok k w)
    (hroom : ¬ sLen + k ≤ sCap) (hfit : (sLen + k) * b ≤ 140737488355328) {cap : Nat} (hcap : cap = (Question.appendCap (sLen + k) sCap e).cut (w.tape w.drawn (Question.appendCap (sLen + k) sCap e)))
    {old new : Array Value} (hold : (Builtin.firstCells es sLen (.slice base sLen sCap)).run P { w with drawn := w.drawn + 1 } = .ok old { w with drawn := w.drawn + 1 })
    (hnew : (Builtin.firstCells es k x').run P { w with drawn := w.drawn + 1 } = .ok new { w with drawn := w.drawn + 1 }) :
    (Builtin.append_ at_ ty args).run P w = .ok (.slice (some ⟨w.heap.size, 0, none⟩) (sLen + k) cap) { w with heap := w.heap.push (.cells (old ++ new ++ Builtin.zeroCells z'.cells (cap - (sLen + k))) e), drawn := w.drawn + 1 } := by
  obtain ⟨ti, _, hbt, hi⟩ := run_bytesT (w := w) hb
  have hti : ∀ w, (typeInfo e).run P w = .ok ti w := fun w => by simp [typeInfo, hi]
  have hfit2 : ¬ (Builtin.nextslicecap (sLen + k) sCap * b > 2 ^ 48) := by
    have := growslice_fits (need := sLen + k) (old := sCap) (bytes := b) (by omega) hfit
    omega
  have hch : (choose (Question.appendCap (sLen + k) sCap e)).run P w = .ok cap { w with drawn := w.drawn + 1 } := by
    rw [run_choose]; simp only [Question.forced, Bool.false_eq_true, if_false]; rw [← hcap]
  rcases hU with hU | ⟨q, hU⟩
  all_goals
    simp only [Builtin.append_, h0, h1, a0, a1, Sem.run_bind, run_underlying hT, Result.andThen_ok, run_sizeT hs, run_underlying hU, Sem.run_pure, Bool.false_eq_true, if_false, hk, if_neg hroom, hti, hbt]
    rw [if_neg (by simp only [false_or]; omega)]
    simp only [Sem.run_bind, hti, Result.andThen_ok, hbt]
    rw [if_neg hfit2]
    simp only [Sem.run_bind, hch, Result.andThen_ok, hti, run_askRoom, hold, Bool.not_false, if_true, hnew, hz, newRow, run_newObj, Sem.run_pure]
end app
/-- What is appended, in the model: how many, and what its cells are. -/
structure AppSrc (P : Program) (at_ : Array TypeId) (ty e : TypeId) (es b k : Nat) (args : Array Value) (src : World → Array Value → Prop) : Prop where
  room : ∀ {base : Option Addr} {sLen sCap : Nat} {w w' : World} {new : Array Value}, args[0]? = some (.slice base sLen sCap) → sLen + k ≤ sCap → src w new →
    (match base with | some a => storeCells (a.add (sLen * es)) new.toList | none => pure ()).run P w = .ok () w' → (Builtin.append_ at_ ty args).run P w = .ok (.slice base (sLen + k) sCap) w'
  grow : ∀ {base : Option Addr} {sLen sCap cap : Nat} {w : World} {z' : Value} {old new : Array Value}, args[0]? = some (.slice base sLen sCap) → (∀ w, (zeroValue e).run P w = .ok z' w) → ¬ sLen + k ≤ sCap → (sLen + k) * b ≤ 140737488355328 →
    cap = (Question.appendCap (sLen + k) sCap e).cut (w.tape w.drawn (Question.appendCap (sLen + k) sCap e)) → (Builtin.firstCells es sLen (.slice base sLen sCap)).run P { w with drawn := w.drawn + 1 } = .ok old { w with drawn := w.drawn + 1 } → src { w with drawn := w.drawn + 1 } new →
    (Builtin.append_ at_ ty args).run P w = .ok (.slice (some ⟨w.heap.size, 0, none⟩) (sLen + k) cap) { w with heap := w.heap.push (.cells (old ++ new ++ Builtin.zeroCells z'.cells (cap - (sLen + k))) e), drawn := w.drawn + 1 }
section app
variable {at_ : Array TypeId} {ty T U e : TypeId} {es b : Nat} {args : Array Value} {k : Nat} {x' : Value}
theorem AppSrc.std (h0 : at_[0]? = some T) (h1 : at_[1]? = some U) (hT : P.underlying T = some (.slice e))
    (hU : P.underlying U = some .string ∨ ∃ q, P.underlying U = some (.slice q)) (hs : sizeT P e = some es) (hb : bytesT P e = some b) (hb0 : 0 < b) (a1 : args[1]? = some x') (hk : ∀ w, (Builtin.lenOf x').run P w = .ok k w) :
    AppSrc P at_ ty e es b k args (fun w new => (Builtin.firstCells es k x').run P w = .ok new w) :=
  ⟨fun a0 hroom hnew hst => app_room h0 h1 hT hU hs a0 a1 hk hroom hnew hst, fun a0 hz hroom hfit hcap hold hnew => app_grow h0 h1 hT hU hs hb hb0 hz a0 a1 hk hroom hfit hcap hold hnew⟩
/-- Zeros. -/
theorem AppSrc.zeros {kd : IntKind} {m : Int} {z' : Value} (h0 : at_[0]? = some T) (h1 : at_[1]? = some U) (hT : P.underlying T = some (.slice e)) (hU : P.underlying U = some (.int kd)) (hs : sizeT P e = some 1) (hb : bytesT P e = some b) (hb0 : 0 < b)
    (hz : ∀ w, (zeroValue e).run P w = .ok z' w) (a1 : args[1]? = some (.int .i64 m)) (hm : 0 ≤ m ∧ m ≤ 1099511627776) (hmb : m.toNat * b ≤ 140737488355328) :
    AppSrc P at_ ty e 1 b m.toNat args (fun _ new => new = Builtin.zeroCells z'.cells m.toNat) := by
  have hwm : IntKind.i64.wrap m = m := by
    clear hz hmb
    simp only [IntKind.wrap, IntKind.bits, IntKind.signed]
    simp
    omega
  have hz0 : ∀ w, (if m.toNat * 1 = 0 then (pure #[] : Sem (Array Value)) else do pure (Builtin.zeroCells (← zeroValue e).cells m.toNat)).run P w = .ok (Builtin.zeroCells z'.cells m.toNat) w := fun w => by
    split
    · rename_i e0
      have : m.toNat = 0 := by omega
      rw [this]; simp [Builtin.zeroCells]
    · simp only [Sem.run_bind, hz, Result.andThen_ok, Sem.run_pure]
  have hbig : ¬ (m * (b : Int) > 2 ^ 48) := by
    have h1 : ((m.toNat * b : Nat) : Int) ≤ ((140737488355328 : Nat) : Int) := Int.ofNat_le.2 hmb
    have h2 : ((m.toNat * b : Nat) : Int) = m * b := by rw [Int.natCast_mul, Int.toNat_of_nonneg hm.1]
    omega
  have hti : ∀ w, ∃ ti, (∀ w, (typeInfo e).run P w = .ok ti w) ∧ ti.bytes = b := fun w => by
    obtain ⟨ti, _, hbt, hi⟩ := run_bytesT (w := w) hb
    exact ⟨ti, fun w => by simp [typeInfo, hi], hbt⟩
  refine ⟨fun {base sLen sCap w w' new} a0 hroom hnew hst => ?_, fun {base sLen sCap cap w z2 old new} a0 hz2 hroom hfit hcap hold hnew => ?_⟩
  · subst hnew
    obtain ⟨ti, ht1, ht2⟩ := hti w
    simp only [Builtin.append_, h0, h1, a0, a1, Sem.run_bind, run_underlying hT, Result.andThen_ok, run_sizeT hs, run_underlying hU, Sem.run_pure, if_true, asInt, asIntOf, hwm]
    rw [if_neg (by omega)]
    simp only [Sem.run_bind, ht1, ht2, Result.andThen_ok]
    rw [if_neg hbig]
    simp only [Sem.run_pure, Result.andThen_ok, if_pos hroom, Bool.not_true, Bool.false_eq_true, if_false, Sem.run_bind, hz0]
    cases base with
    | none => simp only [Sem.run_pure] at hst ⊢; cases hst; rfl
    | some a => simp only at hst ⊢; simp only [Sem.run_bind, hst, Result.andThen_ok, Sem.run_pure]
  · subst hnew
    obtain ⟨ti, ht1, ht2⟩ := hti w
    have hfit2 : ¬ (Builtin.nextslicecap (sLen + m.toNat) sCap * b > 2 ^ 48) := by
      have := growslice_fits (need := sLen + m.toNat) (old := sCap) (bytes := b) (by omega) hfit
      omega
    have hch : (choose (Question.appendCap (sLen + m.toNat) sCap e)).run P w = .ok cap { w with drawn := w.drawn + 1 } := by
      rw [run_choose]; simp only [Question.forced, Bool.false_eq_true, if_false]; rw [← hcap]
    have hneed : ¬ (((sLen + m.toNat : Nat) : Int) > IntKind.i64.max) := by
      have : IntKind.i64.max = 9223372036854775807 := by decide
      have h2 : sLen + m.toNat ≤ (sLen + m.toNat) * b := Nat.le_mul_of_pos_right _ hb0
      omega
    simp only [Builtin.append_, h0, h1, a0, a1, Sem.run_bind, run_underlying hT, Result.andThen_ok, run_sizeT hs, run_underlying hU, Sem.run_pure, if_true, asInt, asIntOf, hwm]
    rw [if_neg (by omega)]
    simp only [Sem.run_bind, ht1, ht2, Result.andThen_ok]
    rw [if_neg hbig]
    simp only [Sem.run_pure, Result.andThen_ok, if_neg hroom, Sem.run_bind, ht1, ht2]
    rw [if_neg (fun h => hneed h.1)]
    simp only [Sem.run_bind, ht1, Result.andThen_ok, ht2]
    rw [if_neg hfit2]
    simp only [Sem.run_bind, hch, Result.andThen_ok, ht1, run_askRoom, hold, Bool.not_true, Bool.false_eq_true, if_false, hz0, hz2, newRow, run_newObj, Sem.run_pure]
end app
end Go.Proofs.YtjfnhdiimibmiaaDoor.Sx

