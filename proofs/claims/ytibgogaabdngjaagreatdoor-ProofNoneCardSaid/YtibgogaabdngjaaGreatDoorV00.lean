/- Part of a proof. The abstract machine: definitions alone (values, heap, executor). The abstract machine and the model's worlds: how abstract values, blocks, heaps read in a world, and what stays. The abstract machine: making a block, writing cells, drawing: what they do to the relation. The abstract machine: operations that write nothing, part one. -/
import Derived.Calls
import Derived.Orders
import Derived.LoopN
import Derived.Laws.Sem
import Derived.Laws.World
import Derived.Laws.Cells
set_option linter.unusedSimpArgs false
set_option linter.unusedVariables false
namespace Go.Vk

/-! ### tries keyed by naturals -/
inductive PT (α : Type) where
  | leaf
  | node (l : PT α) (v : Option α) (r : PT α)

namespace PT
variable {α : Type}
def get : PT α → Nat → Option α
  | leaf, _ => none
  | node _ v _, 0 => v
  | node l _ r, n + 1 => match n % 2 with
    | 0 => l.get (n / 2)
    | _ => r.get (n / 2)
def setF : Nat → PT α → Nat → α → PT α
  | 0, t, _, _ => t
  | _ + 1, leaf, 0, v => node leaf (some v) leaf
  | _ + 1, node l _ r, 0, v => node l (some v) r
  | f + 1, leaf, n + 1, v => match n % 2 with
    | 0 => node (setF f leaf (n / 2) v) none leaf
    | _ => node leaf none (setF f leaf (n / 2) v)
  | f + 1, node l w r, n + 1, v => match n % 2 with
    | 0 => node (setF f l (n / 2) v) w r
    | _ => node l w (setF f r (n / 2) v)
def set (t : PT α) (n : Nat) (v : α) : PT α := setF (n + 1) t n v

theorem get_leaf (n : Nat) : (leaf : PT α).get n = none := by cases n <;> rfl
theorem get_setF : ∀ (f : Nat) (t : PT α) (n m : Nat) (v : α), n < f → (setF f t n v).get m = if m = n then some v else t.get m := by
  intro f
  induction f with
  | zero => intro t n m v h; omega
  | succ f ih =>
    intro t n m v h
    cases n with
    | zero => cases t <;> cases m <;> simp [setF, get] <;> (split <;> simp [get_leaf])
    | succ n =>
      have hn : n / 2 < f := by omega
      cases t with
      | leaf =>
        simp only [setF]
        split <;> rename_i hp
        · cases m with
          | zero => simp [get]
          | succ m =>
            simp only [get]
            split <;> rename_i hq
            · rw [ih _ _ _ _ hn]; simp only [get_leaf]
              by_cases e : m / 2 = n / 2
              · have : m = n := by omega
                simp [this]
              · have : ¬ m = n := by intro h; exact e (by rw [h])
                simp [e, this]
            · have : ¬ m = n := by intro h; subst h; exact hq hp
              simp [get_leaf, this]
        · cases m with
          | zero => simp [get]
          | succ m =>
            simp only [get]
            split <;> rename_i hq
            · have : ¬ m = n := by intro h; subst h; exact hp hq
              simp [get_leaf, this]
            · rw [ih _ _ _ _ hn]; simp only [get_leaf]
              by_cases e : m / 2 = n / 2
              · have : m = n := by
                  have h1 : n % 2 ≠ 0 := hp
                  have h2 : m % 2 ≠ 0 := hq
                  omega
                simp [this]
              · have : ¬ m = n := by intro h; exact e (by rw [h])
                simp [e, this]
      | node l w r =>
        simp only [setF]
        split <;> rename_i hp
        · cases m with
          | zero => simp [get]
          | succ m =>
            simp only [get]
            split <;> rename_i hq
            · rw [ih _ _ _ _ hn]
              by_cases e : m / 2 = n / 2
              · have : m = n := by omega
                simp [this]
              · have : ¬ m = n := by intro h; exact e (by rw [h])
                simp [e, this]
            · have : ¬ m = n := by intro h; subst h; exact hq hp
              simp [this]
        · cases m with
          | zero => simp [get]
          | succ m =>
            simp only [get]
            split <;> rename_i hq
            · have : ¬ m = n := by intro h; subst h; exact hp hq
              simp [this]
            · rw [ih _ _ _ _ hn]
              by_cases e : m / 2 = n / 2
              · have : m = n := by
                  have h1 : n % 2 ≠ 0 := hp
                  have h2 : m % 2 ≠ 0 := hq
                  omega
                simp [this]
              · have : ¬ m = n := by intro h; exact e (by rw [h])
                simp [e, this]
theorem get_set (t : PT α) (n m : Nat) (v : α) : (t.set n v).get m = if m = n then some v else t.get m := get_setF _ _ _ _ _ (Nat.lt_succ_self n)
theorem get_set_same (t : PT α) (n : Nat) (v : α) : (t.set n v).get n = some v := by rw [get_set, if_pos rfl]
theorem get_set_ne (t : PT α) {n m : Nat} (v : α) (h : m ≠ n) : (t.set n v).get m = t.get m := by rw [get_set, if_neg h]
end PT

/-! ### abstract values, the heap -/
inductive Opq where
  | nat (n : Nat)
  | frac (neg : Bool) (n d : Nat)

inductive AV where
  | undef
  | bool (b : Bool)
  | int (k : IntKind) (n : Int)
  | str (s : List Nat)
  | nilp
  | ptr (b off : Nat)
  | nils
  | slice (b off len cap : Nat) (ex : Bool) (sz : Nat)   -- cap: exact (ex), or at least so much
  | empty
  | nilf
  | nili
  | nilm
  | iface (t : TypeId) (v : AV)
  | func (f : FuncId) (caps : List AV)
  | map (b : Nat)
  | agg (cs : List AV)
  | tup (vs : List AV)
  | opq (o : Opq)

instance : Inhabited AV := ⟨.undef⟩

def Opq.beq : Opq → Opq → Bool
  | .nat a, .nat b => Nat.beq a b
  | .frac s a b, .frac t c d => (s == t) && Nat.beq a c && Nat.beq b d
  | _, _ => false

mutual
def AV.beq : AV → AV → Bool
  | .undef, .undef => true
  | .bool a, .bool b => a == b
  | .int k a, .int l b => k == l && a == b
  | .str a, .str b => a == b
  | .nilp, .nilp => true
  | .ptr a b, .ptr c d => Nat.beq a c && Nat.beq b d
  | .nils, .nils => true
  | .slice a b c d x e, .slice a' b' c' d' x' e' => Nat.beq a a' && Nat.beq b b' && Nat.beq c c' && Nat.beq d d' && x == x' && Nat.beq e e'
  | .empty, .empty => true
  | .nilf, .nilf => true
  | .nili, .nili => true
  | .nilm, .nilm => true
  | .iface t v, .iface t' v' => Nat.beq t t' && AV.beq v v'
  | .func f cs, .func f' cs' => Nat.beq f f' && AV.beqL cs cs'
  | .map a, .map b => Nat.beq a b
  | .agg cs, .agg cs' => AV.beqL cs cs'
  | .tup cs, .tup cs' => AV.beqL cs cs'
  | .opq a, .opq b => a.beq b
  | _, _ => false
def AV.beqL : List AV → List AV → Bool
  | [], [] => true
  | a :: as, b :: bs => AV.beq a b && AV.beqL as bs
  | _, _ => false
end

inductive Blk where
  | row (cells : List AV) (ro : Bool)
  | map (es : List (AV × AV × Nat)) (clock : Nat)
  | iter (s : List Nat) (pos : Nat)
  | trow (t : TypeId) (cells : List AV) (ex ro : Bool)   -- a row whose variables' type is known; ex: it has no more cells
  | dead

structure Hp where
  m : PT Blk
  nx : Nat

abbrev Env := PT AV

def AV.cells : AV → List AV
  | .agg cs => cs
  | v => [v]

/-- One cell's value. -/
def AV.one : AV → Bool
  | .undef | .agg _ | .tup _ => false
  | _ => true

def bytesOf (s : ByteArray) : List Nat := s.data.toList.map (·.toNat)

mutual
def absC : Value → AV
  | .bool b => .bool b
  | .int k n => .int k n
  | .string s => .str (bytesOf s)
  | .pointer none => .nilp
  | .slice none 0 0 => .nils
  | .nilFunc => .nilf
  | .nilIface => .nili
  | .map none => .nilm
  | .agg ⟨cs⟩ => .agg (absL cs)
  | .tuple ⟨cs⟩ => .tup (absL cs)
  | _ => .undef
def absL : List Value → List AV
  | [] => []
  | v :: vs => absC v :: absL vs
end

/-! ### types -/
def aggT (P : Program) (t : TypeId) : Bool := match P.underlying t with | some (.struct _) | some (.array _ _) => true | _ => false
def sizeT (P : Program) (t : TypeId) : Nat := match P.info? t with | some i => i.size | none => 0
def bytesT (P : Program) (t : TypeId) : Nat := match P.info? t with | some i => i.bytes | none => 0
def hasT (P : Program) (t : TypeId) : Bool := match P.info? t, P.underlying t with | some _, some _ => true | _, _ => false
def zeroT (P : Program) (t : TypeId) : Option (List AV) := match P.info? t with
  | some i => match i.zero with | some v => some (absC v).cells | none => none
  | none => none
def zeroA (P : Program) (t : TypeId) : Option AV := match P.info? t with
  | some i => match i.zero with | some v => some (absC v) | none => none
  | none => none
def elemT (P : Program) (t : TypeId) : Option TypeId := match P.underlying t with | some (.slice e) => some e | _ => none
def packT (P : Program) (t : TypeId) (cs : List AV) : Option AV := if aggT P t then some (.agg cs) else match cs with | [v] => some v | _ => none
/-- Field number i: its offset and its size. -/
def fieldT (P : Program) (t : TypeId) (i : Nat) : Option (Nat × TypeId) := match P.underlying t with
  | some (.struct fs) => match fs[i]? with | some f => some (f.offset, f.type) | none => none
  | _ => none
/-- A struct of single cells that can be compared cell by cell. -/
def plainT (P : Program) (t : TypeId) : Bool := match P.underlying t with
  | some (.bool) | some (.int _) | some (.string) => true
  | _ => false
def eqOne (P : Program) (t : TypeId) (x y : AV) : Option Bool := match P.underlying t, x, y with
  | some .bool, .bool a, .bool b => some (a == b)
  | some (.int _), .int k a, .int l b => if k = l then some (a == b) else none
  | some .string, .str a, .str b => some (a == b)
  | _, _, _ => none
def eqFlat (P : Program) : List Field → Nat → List AV → List AV → Option Bool
  | [], _, [], [] => some true
  | f :: fs, i, x :: xs, y :: ys => if Nat.beq f.offset i && f.name != "_" then match eqOne P f.type x y, eqFlat P fs (i + 1) xs ys with
      | some a, some b => some (a && b)
      | _, _ => none
    else none
  | _, _, _, _ => none
/-- Structs of single cells, compared cell by cell. -/
def eqStruct (P : Program) (t : TypeId) (xs ys : List AV) : Option Bool := match P.underlying t with
  | some (.struct fs) => if !P.stoodInHeld t && !P.eqGuardType P.depth t then eqFlat P fs.toList 0 xs ys else none
  | _ => none
def keyEq (P : Program) (t : TypeId) : AV → AV → Option Bool
  | .agg xs, .agg ys => eqStruct P t xs ys
  | x, y => eqOne P t x y

def getCells (h : Hp) (b off n : Nat) : Option (List AV) := match h.m.get b with
  | some (.row cs _) => if off + n ≤ cs.length then some ((cs.drop off).take n) else none
  | _ => none

/-- The same of a row whose type is known. -/
def getT (h : Hp) (b off n : Nat) : Option (List AV) := match h.m.get b with
  | some (.trow _ cs _ _) => if off + n ≤ cs.length then some ((cs.drop off).take n) else none
  | _ => none
/-- A new variable's block. -/
def blkZ (t : TypeId) (z : List AV) : Blk := match z with
  | x :: .nils :: _ => (match x with
    | .nilp => .trow t z true false
    | _ => .row z false)
  | _ => .row z false

/-- What a slice holds, cell by cell. -/
def sliceCells (h : Hp) (sz : Nat) : AV → Nat → Option (List AV)
  | .nils, 0 => some []
  | .empty, 0 => some []
  | .slice b off _ _ _ z, n => if z = sz then getCells h b off (n * sz) else none
  | _, _ => none

def natsLess : List Nat → List Nat → Bool
  | _, [] => false
  | [], _ :: _ => true
  | a :: x, b :: y => decide (a < b) || (a == b && natsLess x y)

/-! ### operations that write nothing -/
def aInt (op : BinOp) (k : IntKind) (a b : Int) : Option AV := match op with
  | .add => some (.int k (k.wrap (a + b)))
  | .sub => some (.int k (k.wrap (a - b)))
  | .mul => some (.int k (k.wrap (a * b)))
  | .quo => if b = 0 then none else some (.int k (k.wrap (a.tdiv b)))
  | .rem => if b = 0 then none else some (.int k (a.tmod b))
  | .and => some (.int k (k.wrap (BitVec.ofInt k.bits a &&& BitVec.ofInt k.bits b).toNat))
  | .or => some (.int k (k.wrap (BitVec.ofInt k.bits a ||| BitVec.ofInt k.bits b).toNat))
  | .xor => some (.int k (k.wrap (BitVec.ofInt k.bits a ^^^ BitVec.ofInt k.bits b).toNat))
  | .andNot => some (.int k (k.wrap (BitVec.ofInt k.bits a &&& ~~~(BitVec.ofInt k.bits b)).toNat))
  | .eql => some (.bool (a == b))
  | .neq => some (.bool (a != b))
  | .lss => some (.bool (decide (a < b)))
  | .leq => some (.bool (decide (a ≤ b)))
  | .gtr => some (.bool (decide (a > b)))
  | .geq => some (.bool (decide (a ≥ b)))
  | _ => none
def aShift (op : BinOp) (k : IntKind) (a b : Int) : Option AV := if b < 0 then none else match op with
  | .shl => some (.int k (k.wrap (a * 2 ^ (min b.toNat k.bits))))
  | .shr => some (.int k (a.fdiv (2 ^ (min b.toNat k.bits))))
  | _ => none
def strMost : Nat := 4611686018427387904
def aStr (op : BinOp) (a b : List Nat) : Option AV := match op with
  | .add => if a.length + b.length ≤ strMost then some (.str (a ++ b)) else none
  | .eql => some (.bool (a == b))
  | .neq => some (.bool (!(a == b)))
  | .lss => some (.bool (natsLess a b))
  | .leq => some (.bool (natsLess a b || a == b))
  | .gtr => some (.bool (!(natsLess a b || a == b)))
  | .geq => some (.bool (!natsLess a b))
  | _ => none
/-- '==' of other kinds; c: one of the two is a constant. -/
def aEq (P : Program) (t : TypeId) (c : Bool) : AV → AV → Option Bool
  | .bool a, .bool b => match P.underlying t with | some .bool => some (a == b) | _ => none
  | .nilp, .nilp => match P.underlying t with | some (.pointer _) => some true | _ => none
  | .nilp, .ptr _ _ | .ptr _ _, .nilp | .nilp, .opq _ | .opq _, .nilp => match P.underlying t with | some (.pointer _) => some false | _ => none
  | .ptr b o, .ptr b' o' => match P.underlying t with | some (.pointer e) => if hasT P e && Nat.beq b b' && Nat.beq o o' then some true else none | _ => none
  | .nils, .nils => match P.underlying t with | some (.slice _) => some true | _ => none
  | .nils, .slice _ _ _ _ _ _ | .slice _ _ _ _ _ _, .nils | .nils, .empty | .empty, .nils => match P.underlying t with | some (.slice _) => some false | _ => none
  | .nilf, .nilf => match P.underlying t with | some (.func _ _ _) => some true | _ => none
  | .nilf, .func _ _ | .func _ _, .nilf => match P.underlying t with | some (.func _ _ _) => some false | _ => none
  | .nili, .nili => match P.underlying t with | some (.interface _) => if c then some true else none | _ => none
  | .nili, .iface _ _ | .iface _ _, .nili => match P.underlying t with | some (.interface _) => some false | _ => none
  | .agg xs, .agg ys => eqStruct P t xs ys
  | _, _ => none
def isConst : Operand → Bool
  | .const _ => true
  | _ => false
def aBin (P : Program) (op : BinOp) (t : TypeId) (c : Bool) (x y : AV) : Option AV := match x, y with
  | .int k a, .int l b => match op with
    | .shl | .shr => aShift op k a b
    | _ => if k = l then aInt op k a b else none
  | .str a, .str b => aStr op a b
  | x, y => match op with
    | .eql => (aEq P t c x y).map AV.bool
    | .neq => (aEq P t c x y).map fun b => .bool (!b)
    | _ => none
def aUn (op : UnOp) : AV → Option AV
  | .int k n => match op with
    | .neg => some (.int k (k.wrap (0 - n)))
    | .xor => some (.int k (k.wrap (BitVec.ofInt k.bits (if k.signed then -1 else k.max) ^^^ BitVec.ofInt k.bits n).toNat))
    | _ => none
  | .bool b => match op with
    | .not => some (.bool (!b))
    | _ => none
  | _ => none
def bytesOk : List AV → Option (List Nat)
  | [] => some []
  | .int .u8 n :: r => if 0 ≤ n then (bytesOk r).map (n.toNat % 256 :: ·) else none
  | _ => none
/-- Conversions that make no memory. -/
def aConv (P : Program) (src dst : TypeId) (h : Hp) (x : AV) : Option AV := match P.underlying src, P.underlying dst, x with
  | some _, some (.int k), .int _ n => some (.int k (k.wrap n))
  | some _, some .string, .str s => some (.str s)
  | some (.slice e), some .string, x => match P.underlying e, x with
    | some (.int .u8), .nils => some (.str [])
    | some (.int .u8), .slice b off n _ _ 1 => match getCells h b off n with
      | some cs => (bytesOk cs).map AV.str
      | none => none
    | some (.int .u8), .empty => some (.str [])
    | _, _ => none
  | some (.pointer t), some .unsafePointer, .ptr b off => match h.m.get b with
    | some (.trow _ cs _ _) => if Nat.blt off cs.length && Nat.blt 0 (sizeT P t) then some (.ptr b off) else none
    | _ => none
  | some .unsafePointer, some (.pointer u), .ptr b off => match h.m.get b with
    | some (.trow t cs true _) => if hasT P u && liesAt P P.depth t (cs.length / P.cellsOf t) off u 1 then some (.ptr b off) else none
    | _ => none
  | _, _, _ => none
def toBytes (P : Program) (src dst : TypeId) (x : AV) : Option (List Nat) := match P.underlying src, P.underlying dst, x with
  | some _, some (.slice e), .str s => match P.underlying e with
    | some (.int .u8) => some s
    | _ => none
  | _, _, _ => none
def convReads (P : Program) (src dst : TypeId) : Bool := match P.underlying src, P.underlying dst with
  | some (.slice _), some .string => true
  | _, _ => false

def natIn (y : Nat) : AV → Option Nat
  | .int _ i => if 0 ≤ i ∧ i ≤ y then some i.toNat else none
  | _ => none
def highIn (y : Nat) (none' : Nat) : Option AV → Option Nat
  | some v => natIn y v
  | none => some none'
def lowIn (hi : Nat) : Option AV → Option Nat
  | some v => natIn hi v
  | none => some 0
/-- A slice from lo to hi of one with capacity m. -/
def cutS (b off lo hi m : Nat) (ex : Bool) (sz : Nat) : AV :=
  if lo = 0 then .slice b off hi m ex sz else
  if lo < m then .slice b (off + lo * sz) (hi - lo) (m - lo) ex sz else
  if ex then .slice b off 0 0 true sz else .empty
def aSlice (P : Program) (t : TypeId) (x : AV) (low high mx : Option AV) : Option AV := match P.underlying t, x with
  | some .string, .str s => match mx with
    | some _ => none
    | none => match highIn s.length s.length high with
      | none => none
      | some hi => match lowIn hi low with
        | none => none
        | some lo => some (.str ((s.drop lo).take (hi - lo)))
  | some (.slice e), .slice b off len cap ex sz =>
    if !(hasT P e && sz == sizeT P e && Nat.ble len cap) then none else match mx with
    | none => match highIn cap len high with
      | none => none
      | some hi => match lowIn hi low with
        | none => none
        | some lo => some (cutS b off lo hi cap ex sz)
    | some mv => match natIn cap mv, high with
      | some m, some hv => match natIn m hv with
        | none => none
        | some hi => match lowIn hi low with
          | none => none
          | some lo => some (cutS b off lo hi m true sz)
      | _, _ => none
  | some (.slice e), .nils => if !hasT P e then none else match mx with
    | some _ => none
    | none => match highIn 0 0 high with
      | none => none
      | some hi => match lowIn hi low with
        | none => none
        | some _ => some .nils
  | some (.slice e), .empty => if !hasT P e then none else match mx with
    | some _ => none
    | none => match highIn 0 0 high with
      | none => none
      | some hi => match lowIn hi low with
        | none => none
        | some _ => some .empty
  | _, _ => none

/-- A slice of an array. -/
def aSliceArr (P : Program) (n : Nat) (e : TypeId) (h : Hp) (x : AV) (low high mx : Option AV) : Option AV := match x, mx with
  | .ptr b off, none => if hasT P e && Nat.blt 0 (n * sizeT P e) then match getCells h b off (n * sizeT P e) with
      | some _ => match highIn n n high with
        | none => none
        | some hi => match lowIn hi low with
          | none => none
          | some lo => some (cutS b off lo hi n true (sizeT P e))
      | none => none
    else none
  | _, _ => none

/-- Parts laid into cells. -/
def fillA (place : Nat → Option (Nat × Nat)) : List AV → List (Nat × AV) → Option (List AV)
  | cells, [] => some cells
  | cells, (i, v) :: rest => match place i with
    | none => none
    | some (off, size) => match v with
      | .undef | .tup _ => none
      | v => if v.cells.length = size ∧ off + size ≤ cells.length then fillA place (cells.take off ++ v.cells ++ cells.drop (off + size)) rest else none
def repeatL (z : List AV) : Nat → List AV
  | 0 => []
  | n + 1 => z ++ repeatL z n
def placesT (P : Program) (t : TypeId) : Option (List (Nat × Nat)) := match P.underlying t with
  | some (.struct fs) => fs.toList.mapM fun f => match P.info? f.type with | some i => some (f.offset, i.size) | none => none
  | _ => none
def aBuild (P : Program) (t : TypeId) (parts : List (Nat × AV)) : Option AV := match placesT P t, zeroT P t with
  | some ps, some z => (fillA (ps[·]?) z parts).map AV.agg
  | _, _ => none
def most : Nat := 1099511627776
def aBuildSlice (P : Program) (t : TypeId) (id len : Nat) (parts : List (Nat × AV)) : Option (AV × Option Blk) := match elemT P t with
  | none => none
  | some e => match P.info? e, zeroT P e with
    | some i, some z => if len * i.size ≤ 16777216 ∧ 0 < i.size ∧ z.length = i.size then
        match fillA (fun j => some (j * i.size, i.size)) (repeatL z len) parts with
        | some cells => some (.slice id 0 len len true i.size, some (.row cells false))
        | none => none
      else none
    | _, _ => none
def aMakeSlice (P : Program) (t : TypeId) (id : Nat) : AV → AV → Option (AV × Option Blk)
  | .int _ len, .int _ cap => match elemT P t with
    | none => none
    | some e => match P.info? e, zeroT P e with
      | some i, some z => if 0 ≤ len ∧ len ≤ cap ∧ cap ≤ most ∧ i.bytes * cap ≤ 281474976710656 ∧ 0 < i.size ∧ z.length = i.size then
          some (.slice id 0 len.toNat cap.toNat true i.size, some (.row (repeatL z cap.toNat) false))
        else none
      | _, _ => none
  | _, _ => none
def keyT (P : Program) (t : TypeId) : Option (TypeId × TypeId) := match P.underlying t with
  | some (.map k e) => some (k, e)
  | _ => none
/-- An entry: its key, its value, when it came. -/
def findE (P : Program) (t : TypeId) (k : AV) : List (AV × AV × Nat) → Option (Option (AV × Nat))
  | [] => some none
  | (j, v, n) :: r => match keyEq P t k j with
    | some true => some (some (v, n))
    | some false => findE P t k r
    | none => none
def keyOk (P : Program) (t : TypeId) (k : AV) : Bool := match keyEq P t k k with | some _ => true | none => false
def mapIn (h : Hp) : AV → Option (List (AV × AV × Nat))
  | .nilm => some []
  | .map b => match h.m.get b with
    | some (.map es _) => some es
    | _ => none
  | _ => none
def aLookup (P : Program) (t : TypeId) (h : Hp) (x k : AV) (ok : Bool) : Option AV := match keyT P t with
  | none => none
  | some (kt, e) => match zeroA P e, mapIn h x with
    | some zv, some es => if keyOk P kt k then
        match findE P kt k es with
        | some (some (v, _)) => some (if ok then .tup [v, .bool true] else v)
        | some none => some (if ok then .tup [zv, .bool false] else zv)
        | none => none
      else none
    | _, _ => none
def aLen (P : Program) (t : TypeId) (h : Hp) (x : AV) : Option AV := match P.underlying t, x with
  | some .string, .str s => some (.int .i64 s.length)
  | some (.slice _), .nils => some (.int .i64 0)
  | some (.slice _), .empty => some (.int .i64 0)
  | some (.slice _), .slice _ _ n _ _ _ => some (.int .i64 n)
  | some (.map _ _), .nilm => some (.int .i64 0)
  | some (.map _ _), .map b => match h.m.get b with | some (.map es _) => some (.int .i64 es.length) | _ => none
  | some (.array n _), _ => some (.int .i64 n)
  | _, _ => none
def minA : AV → List AV → Option AV
  | .int k x, [] => some (.int k x)
  | .int k x, .int _ y :: r => minA (.int k (if y < x then y else x)) r
  | _, _ => none
def maxA : AV → List AV → Option AV
  | .int k x, [] => some (.int k x)
  | .int k x, .int _ y :: r => maxA (.int k (if y > x then y else x)) r
  | _, _ => none
def partT (P : Program) (t : TypeId) (cs : List AV) (off : Nat) : Option AV :=
  if off + sizeT P t ≤ cs.length then packT P t ((cs.drop off).take (sizeT P t)) else none

def nilOk : AV → Bool
  | .undef | .nilp | .nili | .nilf => false
  | _ => true
def concreteT (P : Program) (t : TypeId) : Bool := match P.underlying t with
  | some (.interface _) => false
  | some _ => true
  | none => false
def aCall (P : Program) (ev : Operand → AV) (h : Hp) (cl : Call) : Option (AV × Option Blk) := match cl.callee with
  | .builtin .len => match cl.argTypes.toList, cl.args.toList with
    | [t], [x] => (aLen P t h (ev x)).map (·, none)
    | _, _ => none
  | .builtin .min => match cl.args.toList with
    | x :: r => (minA (ev x) (r.map ev)).map (·, none)
    | _ => none
  | .builtin .max => match cl.args.toList with
    | x :: r => (maxA (ev x) (r.map ev)).map (·, none)
    | _ => none
  | _ => none
/-- An operation that writes nothing (but may make one block, number id). -/
def aPure (P : Program) (ev : Operand → AV) (id : Nat) (h : Hp) : Op → Option (AV × Option Blk)
  | .move x | .assign x => some (ev x, none)
  | .pick c a b => match ev c with
    | .bool true => some (ev a, none)
    | .bool false => some (ev b, none)
    | _ => none
  | .alloc t => match zeroT P t with
    | some z => some (.ptr id 0, some (blkZ t z))
    | none => none
  | .box t x => match ev x with
    | .undef | .tup _ => none
    | v => some (.ptr id 0, some (blkZ t v.cells))
  | .build t ps => (aBuild P t (ps.toList.map fun (i, x) => (i, ev x))).map (·, none)
  | .buildSlice t n ps => aBuildSlice P t id n (ps.toList.map fun (i, x) => (i, ev x))
  | .load t a => match ev a with
    | .ptr b off => if hasT P t then match getCells h b off (if aggT P t then sizeT P t else 1) with
        | some cs => (packT P t cs).map (·, none)
        | none => match getT h b off (if aggT P t then sizeT P t else 1) with
          | some cs => (packT P t cs).map (·, none)
          | none => none
      else none
    | _ => none
  | .nilCheck x => if nilOk (ev x) then some (ev x, none) else none
  | .binOp op t x y _ => (aBin P op t (isConst x || isConst y) (ev x) (ev y)).map (·, none)
  | .unOp op _ x => (aUn op (ev x)).map (·, none)
  | .convert s d x => match toBytes P s d (ev x) with
    | some l => if l.length ≤ most then some (.slice id 0 l.length l.length false 1, some (.row (l.map fun (c : Nat) => AV.int .u8 (c : Int)) false)) else none
    | none => (aConv P s d h (ev x)).map (·, none)
  | .makeInterface t x => if concreteT P t then some (.iface t (ev x), none) else none
  | .makeFunc (.func f) first caps => if first.isEmpty then some (.func f (caps.toList.map ev), none) else none
  | .makeMap t none => match P.underlying t with
    | some (.map _ _) => some (.map id, some (.map [] 0))
    | _ => none
  | .makeSlice t l c => aMakeSlice P t id (ev l) (ev c)
  | .slice t x lo hi mx => match P.underlying t with
    | some (.array n e) => (aSliceArr P n e h (ev x) (lo.map ev) (hi.map ev) (mx.map ev)).map (·, none)
    | _ => (aSlice P t (ev x) (lo.map ev) (hi.map ev) (mx.map ev)).map (·, none)
  | .fieldAddr t x i => match ev x, fieldT P t i with
    | .ptr b off, some (o, ft) => if 0 < sizeT P ft then some (.ptr b (off + o), none) else none
    | _, _ => none
  | .field t x i => match ev x, fieldT P t i with
    | .agg cs, some (o, ft) => if hasT P ft then (partT P ft cs o).map (·, none) else none
    | _, _ => none
  | .indexAddr t x i => match P.underlying t, ev x, ev i with
    | some (.slice e), .slice b off len _ _ sz, .int _ n => if 0 ≤ n ∧ n < len ∧ hasT P e ∧ sz = sizeT P e then some (.ptr b (off + n.toNat * sz), none) else none
    | some (.array len e), .ptr b off, .int _ n => if 0 ≤ n ∧ n < len ∧ hasT P e then some (.ptr b (off + n.toNat * sizeT P e), none) else none
    | _, _, _ => none
  | .index t x i => match P.underlying t, ev x, ev i with
    | some .string, .str s, .int _ n => if 0 ≤ n then match s[n.toNat]? with
        | some c => some (.int .u8 c, none)
        | none => none
      else none
    | some (.array len e), .agg cs, .int _ n => if 0 ≤ n ∧ n < len ∧ hasT P e then (partT P e cs (n.toNat * sizeT P e)).map (·, none) else none
    | _, _, _ => none
  | .lookup t x k ok => (aLookup P t h (ev x) (ev k) ok).map (·, none)
  | .extract x i => match ev x with
    | .tup vs => match vs[i]? with
      | some v => some (v, none)
      | none => none
    | _ => none
  | .range t x => match P.underlying t, ev x with
    | some .string, .str s => some (.ptr id 0, some (.iter s 0))
    | _, _ => none
  | .call cl => aCall P ev h cl
  | _ => none

/-! ### operations that write -/
/-- n cells of block b from off on become cs. -/
def putCells (h : Hp) (b off : Nat) (cs : List AV) : Option Hp := match h.m.get b with
  | some (.row old false) => if off + cs.length ≤ old.length ∧ cs.all AV.one then some { h with m := h.m.set b (.row (old.take off ++ cs ++ old.drop (off + cs.length)) false) } else none
  | _ => none
def putT (h : Hp) (b off : Nat) (cs : List AV) : Option Hp := match h.m.get b with
  | some (.trow t old ex false) => if off + cs.length ≤ old.length ∧ cs.all AV.one then some { h with m := h.m.set b (.trow t (old.take off ++ cs ++ old.drop (off + cs.length)) ex false) } else none
  | _ => none
def lenA : AV → Option Nat
  | .nils | .empty => some 0
  | .slice _ _ n _ _ _ => some n
  | .str s => some s.length
  | _ => none
/-- The first n elements' cells of what is appended, copied. -/
def srcCells (h : Hp) (sz n : Nat) : AV → Option (List AV)
  | .str s => if sz = 1 then some ((s.take n).map fun (c : Nat) => AV.int .u8 (c : Int)) else none
  | .nils => if n = 0 then some [] else none
  | .empty => if n = 0 then some [] else none
  | .slice b off len c x z => if n ≤ len then sliceCells h sz (.slice b off len c x z) n else none
  | _ => none
def fresh (h : Hp) (id : Nat) (b : Blk) : Option Hp := match h.m.get id with
  | none => some { h with m := h.m.set id b }
  | some _ => none
def srcT (P : Program) (t : TypeId) : Bool := match P.underlying t with
  | some (.slice _) | some .string => true
  | _ => false
def fits (need bytes : Nat) : Bool := Nat.ble (2 * need * bytes) 281474976710656 && Nat.ble need most
/-- new: the appended elements' cells, n elements. -/
def appendTo (bytes sz n id : Nat) (h : Hp) (new : List AV) : AV → Option (AV × Hp)
  | .nils => if n = 0 then some (.nils, h) else
    if fits n bytes then (fresh h id (.row new false)).map (.slice id 0 n n false sz, ·) else none
  | .empty => if n = 0 then some (.empty, h) else none
  | .slice b off len cap ex z => if z ≠ sz then none else
    if n = 0 then some (.slice b off len cap ex z, h) else
    if len + n ≤ cap then (putCells h b (off + len * sz) new).map (.slice b off (len + n) cap ex sz, ·) else
    match getCells h b off (len * sz) with
    | none => none
    | some old => if fits (len + n) bytes then
        match ex with
        | true => (fresh h id (.row (old ++ new) false)).map (.slice id 0 (len + n) (len + n) false sz, ·)
        | false => match h.m.get b with
          | some (.row _ false) => match fresh h id (.row (old ++ new) false) with
            | some h1 => some (.slice id 0 (len + n) (len + n) false sz, { h1 with m := h1.m.set b .dead })
            | none => none
          | _ => none
      else none
  | _ => none
def aAppend (P : Program) (t u : TypeId) (id : Nat) (h : Hp) (s x : AV) : Option (AV × Hp) := if !srcT P u then none else match elemT P t with
  | none => none
  | some e => match P.info? e, zeroT P e, lenA x with
    | some i, some z, some n => if z.length = i.size ∧ 0 < i.size then match srcCells h i.size n x with
      | none => none
      | some new => if new.all AV.one then appendTo i.bytes i.size n id h new s else none
      else none
    | _, _, _ => none
/-- Bytes of a string that are to be appended: the elements' type, the bytes. -/
def strE (P : Program) (t u : TypeId) (len : Nat) : AV → Option (TypeId × List Nat)
  | .str l => if !srcT P u then none else match elemT P t with
    | none => none
    | some e => match P.info? e, zeroT P e with
      | some i, some z => if z.length = 1 ∧ i.size = 1 ∧ l.length ≠ 0 ∧ fits (len + l.length) i.bytes then some (e, l) else none
      | _, _ => none
  | _ => none
/-- Bytes of a string appended to nil, or to a row that is known to be one of bytes. -/
def aAppendT (P : Program) (t u : TypeId) (id : Nat) (h : Hp) (s x : AV) : Option (AV × Hp) := match s with
  | .nils => match strE P t u 0 x with
    | some (e, l) => (fresh h id (.trow e (l.map fun (c : Nat) => AV.int .u8 (c : Int)) false false)).map (.slice id 0 l.length l.length false 1, ·)
    | none => none
  | .slice b 0 len cap false 1 => match strE P t u len x with
    | some (e, l) => if len + l.length ≤ cap then none else match h.m.get b with
      | some (.trow e' old false false) => if e' = e ∧ old.length = len then match fresh h id (.trow e (old ++ l.map fun (c : Nat) => AV.int .u8 (c : Int)) false false) with
          | some h1 => some (.slice id 0 (len + l.length) (len + l.length) false 1, { h1 with m := h1.m.set b .dead })
          | none => none
        else none
      | _ => none
    | none => none
  | _ => none
def aCopy (P : Program) (t : TypeId) (h : Hp) (d x : AV) : Option (AV × Hp) := match elemT P t with
  | none => none
  | some e => match P.info? e, lenA d, lenA x with
    | some i, some m, some n => match srcCells h i.size (min n m) x with
      | none => none
      | some new => match d with
        | .nils | .empty => some (.int .i64 0, h)
        | .slice b off _ _ _ sz => if sz ≠ i.size then none else (putCells h b off new).map (.int .i64 (min n m : Nat), ·)
        | _ => none
    | _, _, _ => none
def aClear (P : Program) (t : TypeId) (h : Hp) (x : AV) : Option Hp := match P.underlying t, x with
  | some _, .nilm | some _, .nils | some _, .empty => some h
  | some (.slice e), .slice b off n _ _ sz => match P.info? e, zeroT P e with
    | some i, some z => if z.length = i.size ∧ sz = i.size then if n = 0 then some h else putCells h b off (repeatL z n) else none
    | _, _ => none
  | some (.map _ _), .map b => match h.m.get b with
    | some (.map _ clock) => some { h with m := h.m.set b (.map [] clock) }
    | _ => none
  | _, _ => none
def updE (P : Program) (t : TypeId) (k v : AV) : List (AV × AV × Nat) → List (AV × AV × Nat)
  | [] => []
  | (j, w, n) :: r => match keyEq P t k j with
    | some true => (k, v, n) :: r
    | _ => (j, w, n) :: updE P t k v r
def aMapUpdate (P : Program) (t : TypeId) (h : Hp) (m k v : AV) : Option Hp := match keyT P t, m, h.m.get (match m with | .map b => b | _ => 0) with
  | some (kt, _), .map b, some (.map es clock) => if keyOk P kt k then match findE P kt k es with
      | some (some _) => some { h with m := h.m.set b (.map (updE P kt k v es) clock) }
      | some none => some { h with m := h.m.set b (.map (es ++ [(k, v, clock)]) (clock + 1)) }
      | none => none
    else none
  | _, _, _ => none
def aMapEntry (P : Program) (t : TypeId) (h : Hp) (m k : AV) : Option (AV × Hp) := match keyT P t, m, h.m.get (match m with | .map b => b | _ => 0) with
  | some (kt, e), .map b, some (.map es clock) => if keyOk P kt k then match findE P kt k es with
      | some (some (v, n)) => some (.tup [v, .int .i64 n], { h with m := h.m.set b (.map (updE P kt k v es) clock) })
      | some none => match zeroA P e with
        | some zv => some (.tup [zv, .int .i64 clock], { h with m := h.m.set b (.map (es ++ [(k, zv, clock)]) (clock + 1)) })
        | none => none
      | none => none
    else none
  | _, _, _ => none
def storeE (t : Nat) (v : AV) : List (AV × AV × Nat) → Option (List (AV × AV × Nat))
  | [] => none
  | (j, w, u) :: r => if u = t then some ((j, v, u) :: r) else match storeE t v r with
    | some r' => some ((j, w, u) :: r')
    | none => none
def aEntryStore (h : Hp) (m t v : AV) : Option Hp := match m, t, h.m.get (match m with | .map b => b | _ => 0) with
  | .map b, .int _ n, some (.map es clock) => if 0 ≤ n then match storeE n.toNat v es with
      | some es' => some { h with m := h.m.set b (.map es' clock) }
      | none => none
    else none
  | _, _, _ => none
def aNext (h : Hp) : AV → Option (AV × Hp)
  | .ptr b 0 => match h.m.get b with
    | some (.iter s pos) => match s[pos]? with
      | none => some (.tup [.bool false], h)
      | some c => if c < 128 then some (.tup [.bool true, .int .i64 pos, .int .i32 c], { h with m := h.m.set b (.iter s (pos + 1)) }) else none
    | _ => none
  | _ => none

/-- Does an operation write, or call? (What it reads, makes, is another matter.) -/
def isEff : Op → Bool
  | .store _ _ _ | .mapUpdate _ _ _ _ | .mapEntry _ _ _ | .entryStore _ _ _ _ | .next _ _ => true
  | .call cl => match cl.callee with
    | .builtin .len | .builtin .cap | .builtin .min | .builtin .max => false
    | _ => true
  | _ => false

def bytesIn : List AV → Option (List Nat)
  | [] => some []
  | .int .u8 n :: r => if 0 ≤ n ∧ n < 256 then (bytesIn r).map (n.toNat :: ·) else none
  | _ => none
/-- unsafe.String: the bytes; they turn no more. -/
def aUStr (P : Program) (pt : TypeId) (h : Hp) : AV → AV → Option (AV × Hp)
  | .ptr b 0, .int .i64 n => match h.m.get b with
    | some (.trow e cs ex false) => match P.underlying pt with
      | some (.pointer e') => if e' = e ∧ P.cellsOf e = 1 ∧ 0 < n ∧ n ≤ cs.length ∧ n ≤ 9223372036854775807 then match bytesIn (cs.take n.toNat) with
          | some l => some (.str l, { h with m := h.m.set b (.trow e cs ex true) })
          | none => none
        else none
      | _ => none
    | _ => none
  | _, _ => none
def aEffCall (P : Program) (ev : Operand → AV) (id : Nat) (h : Hp) (cl : Call) : Option (AV × Hp) := match cl.callee with
  | .builtin .append => match cl.argTypes.toList, cl.args.toList with
    | [t, u], [s, x] => match aAppendT P t u id h (ev s) (ev x) with
      | some r => some r
      | none => aAppend P t u id h (ev s) (ev x)
    | _, _ => none
  | .builtin .unsafeSliceData => match cl.args.toList with
    | [x] => match ev x with
      | .slice b off _ cap _ _ => if Nat.blt 0 cap then some (.ptr b off, h) else none
      | _ => none
    | _ => none
  | .builtin .unsafeString => match cl.argTypes.toList, cl.args.toList with
    | [pt, _], [p, n] => aUStr P pt h (ev p) (ev n)
    | _, _ => none
  | .builtin .copy => match cl.argTypes.toList, cl.args.toList with
    | t :: _, [d, x] => aCopy P t h (ev d) (ev x)
    | _, _ => none
  | .builtin .clear => match cl.argTypes.toList, cl.args.toList with
    | t :: _, x :: _ => (aClear P t h (ev x)).map (.tup [], ·)
    | _, _ => none
  | _ => none
def aEff (P : Program) (ev : Operand → AV) (id : Nat) (h : Hp) : Op → Option (AV × Hp)
  | .store t a x => match ev a, ev x with
    | .ptr _ _, .undef => none
    | .ptr _ _, .tup _ => none
    | .ptr b off, v => if hasT P t ∧ v.cells.length = sizeT P t then match putCells h b off v.cells with
        | some h1 => some (.tup [], h1)
        | none => (putT h b off v.cells).map (.tup [], ·)
      else none
    | _, _ => none
  | .mapUpdate t m k x => (aMapUpdate P t h (ev m) (ev k) (ev x)).map (.tup [], ·)
  | .mapEntry t m k => aMapEntry P t h (ev m) (ev k)
  | .entryStore _ m s x => (aEntryStore h (ev m) (ev s) (ev x)).map (.tup [], ·)
  | .next it true => aNext h (ev it)
  | .call cl => aEffCall P ev id h cl
  | _ => none

/-! ### the executor -/
structure FnE where
  body : Code
  nt : Nat
  results : List ResultVar

def fnE (P : Program) (f : FuncId) : Option FnE := match P.funcs[f]? with
  | some fn => if fn.name == "runtime.NumGoroutine" then none else match fn.body with
    | some c => some ⟨c, fn.ntmps, fn.results.toList⟩
    | none => none
  | none => none

def evalA (env : Env) : Operand → AV
  | .tmp t => match env.get t with
    | some v => v
    | none => .undef
  | .const v => absC v
  | .func f => .func f []
  | .global g => if Nat.blt g 1000 then .ptr g 0 else .undef

def putA (nt : Nat) (env : Env) (dst : Option Tmp) (v : AV) : Option Env := match dst with
  | none => some env
  | some d => if d < nt then some (env.set d v) else none

/-- Is an operation wanted? (none: it can't be told) -/
def wantA (ops : Array Oper) (env : Env) (o : Oper) : Option Bool := match o.guard with
  | none => some true
  | some (j, want) => match ops[j]? with
    | some oj => match oj.dst with
      | some d => match env.get d with
        | some (.bool b) => some (b == want)
        | some (.tup []) => some false
        | _ => none
      | none => none
    | none => none

def calleeA (ev : Operand → AV) : Op → Option (FuncId × List AV)
  | .call cl => match cl.callee with
    | .value f => match ev f with
      | .func g caps => some (g, cl.args.toList.map ev ++ caps)
      | _ => none
    | _ => none
  | _ => none

def idxF : List Nat → Nat → Nat → Int
  | [], _, _ => -1
  | b :: l, c, i => if Nat.beq b c then i else idxF l c (i + 1)
/-- Functions without a body. -/
def extA (P : Program) (f : FuncId) (args : List AV) : Option AV := match P.funcs[f]? with
  | none => none
  | some fn => if fn.body.isNone && fn.origin == "" then
      if fn.name == "internal/abi.NoEscape" then match args with
        | [x] => some x
        | _ => none
      else if fn.name == "internal/bytealg.IndexByteString" then match args with
        | [.str s, .int .u8 n] => if 0 ≤ n then some (.int .i64 (idxF s (n.toNat % 256) 0)) else none
        | _ => none
      else none
    else none

/-- What an operation gives. -/
def opVal (P : Program) (call : FuncId → List AV → Hp → Option (AV × Hp)) (base i : Nat) (env : Env) (h : Hp) (o : Oper) : Option (AV × Hp) := match isEff o.op with
  | true => match calleeA (evalA env) o.op with
    | some (f, args) => match fnE P f with
      | some _ => call f args h
      | none => match extA P f args with
        | some v => some (v, h)
        | none => none
    | none => aEff P (evalA env) (base + i) h o.op
  | false => match aPure P (evalA env) (base + i) h o.op with
    | some (v, none) => some (v, h)
    | some (v, some b) => match fresh h (base + i) b with
      | some h1 => some (v, h1)
      | none => none
    | none => none

/-- One operation of a region; base: the number of the region's first block. -/
def opStep (P : Program) (call : FuncId → List AV → Hp → Option (AV × Hp)) (ops : Array Oper) (nt base i : Nat) (env : Env) (h : Hp) : Option (Env × Hp) := match ops[i]? with
  | none => none
  | some o => match wantA ops env o with
    | none => none
    | some false => match putA nt env o.dst (.tup []) with
      | some env1 => some (env1, h)
      | none => none
    | some true => match opVal P call base i env h o with
      | some (v, h1) => match putA nt env o.dst v with
        | some env1 => some (env1, h1)
        | none => none
      | none => none

def seqOps (P : Program) (call : FuncId → List AV → Hp → Option (AV × Hp)) (ops : Array Oper) (nt base : Nat) : List Nat → Env → Hp → Option (Env × Hp)
  | [], env, h => some (env, h)
  | i :: r, env, h => match opStep P call ops nt base i env h with
    | some (env1, h1) => seqOps P call ops nt base r env1 h1
    | none => none

/-! #### a region that draws its order -/
def binds (e : Edge) : Bool := Region.binds .any e
/-- Which operations lie before each one, as bits. -/
def befores (ops : Array Oper) : List Nat := (Region.before ops).toList
def directBits (o : Oper) (B : List Nat) : Nat := o.after.toList.foldl (fun s e => if binds e then s ||| 2 ^ e.on ||| B.getD e.on 0 else s) 0
/-- The bits are closed. -/
def bitsOk (ops : List Oper) (B : List Nat) : Bool := ops.zipIdx.all fun (o, j) => o.after.toList.all (fun e => !binds e || Nat.blt e.on j) && Nat.beq (B.getD j 0) (directBits o B)
def anc (B : List Nat) (i j : Nat) : Bool := (B.getD j 0).testBit i
def effsOf (ops : List Oper) : List Nat := ops.zipIdx.filterMap fun (o, i) => if isEff o.op then some i else none
def ordGo (n : Nat) (B : List Nat) : List Nat → List Nat → List Nat
  | [], done => done ++ (List.range n).filter fun i => !done.contains i
  | e :: es, done => ordGo n B es (done ++ ((List.range n).filter fun i => anc B i e && !done.contains i) ++ [e])
def ordOf (ops : List Oper) (B : List Nat) : List Nat := ordGo ops.length B (effsOf ops) []
def pairOk (ops : Array Oper) (B : List Nat) (i j : Nat) : Bool := anc B i j || (match ops[i]?, ops[j]? with
  | some x, some y => x.apart ops y && !isEff y.op
  | _, _ => false)
def ordOk (ops : Array Oper) (B : List Nat) : List Nat → List Nat → Bool
  | _, [] => true
  | done, i :: r => !done.contains i && (match ops[i]? with
      | some o => o.after.toList.all fun e => !binds e || done.contains e.on
      | none => false) && r.all (fun j => !Nat.beq i j && pairOk ops B i j) && ordOk ops B (i :: done) r
def regionOk (ops : Array Oper) (B : List Nat) (ord : List Nat) : Bool :=
  bitsOk ops.toList B && ordOk ops B [] ord && Nat.beq ord.length ops.size && (List.range ops.size).all fun i => ord.contains i

/-- What an operation that writes nothing reads: a row's cells, a whole block. -/
inductive Reads where
  | nothing
  | cells (b off n : Nat)
  | whole (b : Nat)
def readsA (P : Program) (ev : Operand → AV) : Op → Reads
  | .load t a => match ev a with
    | .ptr b off => .cells b off (if aggT P t then sizeT P t else 1)
    | _ => .nothing
  | .convert _ _ x => match ev x with
    | .slice b _ _ _ _ _ => .whole b
    | .ptr b _ => .whole b
    | _ => .nothing
  | .slice t x _ _ _ => match P.underlying t with
    | some (.array n e) => match ev x with
      | .ptr b off => .cells b off (n * sizeT P e)
      | _ => .nothing
    | _ => .nothing
  | .lookup _ x _ _ => match ev x with
    | .map b => .whole b
    | _ => .nothing
  | .call cl => match cl.callee with
    | .builtin .len => match cl.args.toList with
      | [x] => match ev x with
        | .map b => .whole b
        | _ => .nothing
      | _ => .nothing
    | _ => .nothing
  | _ => .nothing
/-- A block that is read was there before the region, or came of a call, or of an operation before this one. -/
def blkOk (B : List Nat) (base n i b : Nat) : Bool := Nat.blt b base || Nat.ble (base + n) b || anc B (b - base) i
/-- What was read stands as it stood before each of the writing operations that lie not before this one. -/
def segsOk (B : List Nat) (i : Nat) (h : Hp) (r : Reads) : List (Nat × Hp) → Bool
  | [] => true
  | (e, h0) :: segs => (anc B e i || (match r with
      | .nothing => true
      | .whole _ => false
      | .cells b off n => match getCells h b off n, getCells h0 b off n with
        | some x, some y => AV.beqL x y
        | _, _ => match getT h b off n, getT h0 b off n with
          | some x, some y => AV.beqL x y
          | _, _ => false)) && segsOk B i h r segs
def readOk (B : List Nat) (base n i : Nat) (h : Hp) (r : Reads) (segs : List (Nat × Hp)) : Bool := (match r with
  | .nothing => true
  | .whole b | .cells b _ _ => blkOk B base n i b) && segsOk B i h r segs

def drawStep (P : Program) (call : FuncId → List AV → Hp → Option (AV × Hp)) (ops : Array Oper) (B : List Nat) (nt base i : Nat) (env : Env) (h : Hp) (segs : List (Nat × Hp)) : Option (Env × Hp × List (Nat × Hp)) :=
  match ops[i]? with
  | none => none
  | some o => match wantA ops env o with
    | none => none
    | some false => match putA nt env o.dst (.tup []) with
      | some env1 => some (env1, h, segs)
      | none => none
    | some true => match opVal P call base i env h o with
      | none => none
      | some (v, h1) => match putA nt env o.dst v with
        | none => none
        | some env1 => match isEff o.op with
          | true => some (env1, h1, (i, h) :: segs)
          | false => if readOk B base ops.size i h (readsA P (evalA env) o.op) segs then some (env1, h1, segs) else none

def drawOps (P : Program) (call : FuncId → List AV → Hp → Option (AV × Hp)) (ops : Array Oper) (B : List Nat) (nt base : Nat) : List Nat → Env → Hp → List (Nat × Hp) → Option (Env × Hp)
  | [], env, h, _ => some (env, h)
  | i :: r, env, h, segs => match drawStep P call ops B nt base i env h segs with
    | some (env1, h1, segs1) => drawOps P call ops B nt base r env1 h1 segs1
    | none => none

def runRegion (P : Program) (call : FuncId → List AV → Hp → Option (AV × Hp)) (ops : Array Oper) (draw : Bool) (nt : Nat) (env : Env) (h : Hp) : Option (Env × Hp) :=
  match draw with
  | false => seqOps P call ops nt h.nx (List.range ops.size) env { h with nx := h.nx + ops.size }
  | true => match regionOk ops (befores ops) (ordOf ops.toList (befores ops)) with
    | true => drawOps P call ops (befores ops) nt h.nx (ordOf ops.toList (befores ops)) env { h with nx := h.nx + ops.size } []
    | false => none

inductive AEx where
  | normal
  | exit (id : Nat)
  | ret

def initEnv : Nat → List AV → Env
  | _, [] => .leaf
  | i, v :: vs => (initEnv (i + 1) vs).set i v

def loadA (P : Program) (t : TypeId) (h : Hp) : AV → Option AV
  | .ptr b off => if hasT P t then match getCells h b off (if aggT P t then sizeT P t else 1) with
    | some cs => packT P t cs
    | none => match getT h b off (if aggT P t then sizeT P t else 1) with
      | some cs => packT P t cs
      | none => none
    else none
  | _ => none

def resultsA (P : Program) (env : Env) (h : Hp) : List ResultVar → Option (List AV)
  | [] => some []
  | .tmp t :: r => match resultsA P env h r with
    | some vs => some (evalA env (.tmp t) :: vs)
    | none => none
  | .cell a t :: r => match loadA P t h (evalA env (.tmp a)), resultsA P env h r with
    | some v, some vs => some (v :: vs)
    | _, _ => none
def oneOrTup : List AV → AV
  | [v] => v
  | vs => .tup vs

abbrev Hooks := FuncId → List AV → Hp → Option (AV × Hp)

/-- A call, by a run of bodies. -/
def callW (P : Program) (hk : Hooks) (go : Nat → Code → Env → Hp → Option (AEx × Env × Hp)) (f : FuncId) (args : List AV) (h : Hp) : Option (AV × Hp) :=
  match hk f args h with
  | some r => some r
  | none => match fnE P f with
    | none => none
    | some e => if args.length ≤ e.nt then match go e.nt e.body (initEnv 0 args) h with
      | some (.normal, env, h1) | some (.ret, env, h1) => match resultsA P env h1 e.results with
        | some vs => some (oneOrTup vs, h1)
        | none => none
      | _ => none
      else none

def exec (P : Program) (hk : Hooks) : Nat → Nat → Code → Env → Hp → Option (AEx × Env × Hp)
  | 0, _, _, _, _ => none
  | n + 1, nt, c, env, h => match c with
    | .skip | .label _ => some (.normal, env, h)
    | .region _ ops draw => match runRegion P (callW P hk (exec P hk n)) ops draw nt env h with
      | some (env1, h1) => some (.normal, env1, h1)
      | none => none
    | .seq a b => match exec P hk n nt a env h with
      | some (.normal, env1, h1) => exec P hk n nt b env1 h1
      | r => r
    | .cond c a b => match evalA env c with
      | .bool true => exec P hk n nt a env h
      | .bool false => exec P hk n nt b env h
      | _ => none
    | .block id c => match exec P hk n nt c env h with
      | some (.exit i, env1, h1) => if i = id then some (.normal, env1, h1) else some (.exit i, env1, h1)
      | r => r
    | .loop c => match exec P hk n nt c env h with
      | some (.normal, env1, h1) => exec P hk n nt (.loop c) env1 h1
      | r => r
    | .exit id => some (.exit id, env, h)
    | .ret => some (.ret, env, h)
    | _ => none

/-- A call. -/
def callF (P : Program) (hk : Hooks) (n : Nat) : FuncId → List AV → Hp → Option (AV × Hp) := callW P hk (exec P hk n)

end Go.Vk
set_option linter.unusedSimpArgs false
set_option linter.unusedVariables false
namespace Go.Vk

/-- A world; blocks that never turn (Z); where abstract blocks lie (rho), which of them have a place (D). -/
structure Cx where
  w : World
  Z : Nat → Prop
  rho : Nat → Nat × Nat
  D : Nat → Prop

def room (w : World) (k n : Nat) : Prop := ∃ cs e fr, w.heap[k]? = some (.cells cs e fr) ∧ n ≤ cs.size

/-- The digits of a natural number, halves of words, the lowest first. -/
def digVal : List Nat → Nat
  | [] => 0
  | d :: ds => d + 4294967296 * digVal ds
def digOk (ds : List Nat) : Prop := (∀ d ∈ ds, d < 4294967296) ∧ (∀ d, ds.getLast? = some d → d ≠ 0)

def RDig (w : World) (Z : Nat → Prop) (n : Nat) (v : Value) : Prop := ∃ ds : List Nat, digOk ds ∧ digVal ds = n ∧
  ((ds = [] ∧ (v = .slice none 0 0 ∨ ∃ a c, v = .slice (some a) 0 c)) ∨
   ∃ k off c cs e fr, v = .slice (some ⟨k, off, none⟩) ds.length c ∧ ds.length ≤ c ∧ Z k ∧ w.heap[k]? = some (.cells cs e fr) ∧ off + c ≤ cs.size ∧
     ∀ (i d : Nat), ds[i]? = some d → cs[off + i]? = some (.int .u32 (d : Int)))
def RNat (w : World) (Z : Nat → Prop) (n : Nat) (v : Value) : Prop := ∃ k cs e fr sl o, v = .pointer (some ⟨k, o, none⟩) ∧ Z k ∧ w.heap[k]? = some (.cells cs e fr) ∧
  cs[o]? = some sl ∧ RDig w Z n sl
def RFrac (w : World) (Z : Nat → Prop) (s : Bool) (n d : Nat) (v : Value) : Prop := (0 < d ∧ Nat.Coprime n d ∧ (n = 0 → s = false)) ∧
  ∃ k cs e fr vn vd o, v = .pointer (some ⟨k, o, none⟩) ∧ Z k ∧ w.heap[k]? = some (.cells cs e fr) ∧
  cs[o]? = some (.bool s) ∧ cs[o + 1]? = some vn ∧ cs[o + 2]? = some vd ∧ RNat w Z n vn ∧ RNat w Z d vd
def RO (w : World) (Z : Nat → Prop) : Opq → Value → Prop
  | .nat n, v => RNat w Z n v
  | .frac s n d, v => RFrac w Z s n d v

mutual
def VR (c : Cx) : AV → Value → Prop
  | .undef, _ => True
  | .bool b, v => v = .bool b
  | .int k n, v => v = .int k n
  | .str l, v => ∃ s, v = .string s ∧ bytesOf s = l
  | .nilp, v => v = .pointer none
  | .ptr b off, v => c.D b ∧ v = .pointer (some ⟨(c.rho b).1, (c.rho b).2 + off, none⟩)
  | .nils, v => v = .slice none 0 0
  | .slice b off len cap ex sz, v => c.D b ∧ ∃ m, v = .slice (some ⟨(c.rho b).1, (c.rho b).2 + off, none⟩) len m ∧ len ≤ m ∧ cap ≤ m ∧ (ex = true → m = cap) ∧ room c.w (c.rho b).1 ((c.rho b).2 + off + m * sz)
  | .empty, v => ∃ a m, v = .slice (some a) 0 m
  | .nilf, v => v = .nilFunc
  | .nili, v => v = .nilIface
  | .nilm, v => v = .map none
  | .iface t x, v => ∃ y, v = .iface t y ∧ VR c x y
  | .func f caps, v => ∃ cs : Array Value, v = .func (.func f) #[] cs ∧ VRL c caps cs.toList
  | .map b, v => c.D b ∧ v = .map (some (c.rho b).1)
  | .agg xs, v => ∃ vs : Array Value, v = .agg vs ∧ VRL c xs vs.toList
  | .tup xs, v => ∃ vs : Array Value, v = .tuple vs ∧ VRL c xs vs.toList
  | .opq o, v => RO c.w c.Z o v
def VRL (c : Cx) : List AV → List Value → Prop
  | [], vs => vs = []
  | x :: xs, vs => ∃ y ys, vs = y :: ys ∧ VR c x y ∧ VRL c xs ys
end

/-- What holds in c holds in c'. -/
structure Cx.le (c c' : Cx) : Prop where
  d : ∀ b, c.D b → c'.D b ∧ c'.rho b = c.rho b
  z : ∀ k, c.Z k → c'.Z k ∧ c'.w.heap[k]? = c.w.heap[k]?
  rooms : ∀ (k : Nat) (cs : Array Value) (e : TypeId) (fr : Nat × Nat), c.w.heap[k]? = some (.cells cs e fr) → ∃ (cs' : Array Value) (fr' : Nat × Nat), c'.w.heap[k]? = some (.cells cs' e fr') ∧ cs'.size = cs.size

theorem Cx.le.refl (c : Cx) : c.le c := ⟨fun _ h => ⟨h, rfl⟩, fun _ h => ⟨h, rfl⟩, fun _ cs e fr h => ⟨cs, fr, h, rfl⟩⟩
theorem Cx.le.trans {a b c : Cx} (h : a.le b) (k : b.le c) : a.le c :=
  ⟨fun i hi => ⟨(k.d i (h.d i hi).1).1, by rw [(k.d i (h.d i hi).1).2, (h.d i hi).2]⟩,
   fun i hi => ⟨(k.z i (h.z i hi).1).1, by rw [(k.z i (h.z i hi).1).2, (h.z i hi).2]⟩,
   fun i cs e fr hi => by
     obtain ⟨cs1, fr1, h1, s1⟩ := h.rooms i cs e fr hi
     obtain ⟨cs2, fr2, h2, s2⟩ := k.rooms i cs1 e fr1 h1
     exact ⟨cs2, fr2, h2, s2.trans s1⟩⟩

theorem Cx.le.room {c c' : Cx} (h : c.le c') {k n : Nat} (hr : room c.w k n) : room c'.w k n := by
  obtain ⟨cs, e, fr, hk, hn⟩ := hr
  obtain ⟨cs', fr', hk', hs⟩ := h.rooms k cs e fr hk
  exact ⟨cs', e, fr', hk', by omega⟩

theorem RDig.mono {w w' : World} {Z Z' : Nat → Prop} {n : Nat} {v : Value} (hz : ∀ k, Z k → Z' k ∧ w'.heap[k]? = w.heap[k]?) (h : RDig w Z n v) : RDig w' Z' n v := by
  obtain ⟨ds, h1, h2, h3⟩ := h
  refine ⟨ds, h1, h2, h3.imp id ?_⟩
  rintro ⟨k, off, c, cs, e, fr, e1, e2, e3, e4, e5, e6⟩
  exact ⟨k, off, c, cs, e, fr, e1, e2, (hz k e3).1, by rw [(hz k e3).2]; exact e4, e5, e6⟩
theorem RNat.mono {w w' : World} {Z Z' : Nat → Prop} {n : Nat} {v : Value} (hz : ∀ k, Z k → Z' k ∧ w'.heap[k]? = w.heap[k]?) (h : RNat w Z n v) : RNat w' Z' n v := by
  obtain ⟨k, cs, e, fr, sl, o, e1, e2, e3, e4, e5⟩ := h
  exact ⟨k, cs, e, fr, sl, o, e1, (hz k e2).1, by rw [(hz k e2).2]; exact e3, e4, e5.mono hz⟩
theorem RFrac.mono {w w' : World} {Z Z' : Nat → Prop} {s : Bool} {n d : Nat} {v : Value} (hz : ∀ k, Z k → Z' k ∧ w'.heap[k]? = w.heap[k]?) (h : RFrac w Z s n d v) : RFrac w' Z' s n d v := by
  obtain ⟨h0, k, cs, e, fr, vn, vd, o, e1, e2, e3, e4, e5, e6, e7, e8⟩ := h
  exact ⟨h0, k, cs, e, fr, vn, vd, o, e1, (hz k e2).1, by rw [(hz k e2).2]; exact e3, e4, e5, e6, e7.mono hz, e8.mono hz⟩
theorem RO.mono {w w' : World} {Z Z' : Nat → Prop} {o : Opq} {v : Value} (hz : ∀ k, Z k → Z' k ∧ w'.heap[k]? = w.heap[k]?) (h : RO w Z o v) : RO w' Z' o v := by
  cases o with
  | nat n => exact RNat.mono hz h
  | frac s n d => exact RFrac.mono hz h

mutual
theorem VR.mono {c c' : Cx} (h : c.le c') : ∀ (x : AV) (v : Value), VR c x v → VR c' x v
  | .undef, _, _ => by simp only [VR]
  | .bool b, v, hv => by simp only [VR] at hv ⊢; exact hv
  | .int k n, v, hv => by simp only [VR] at hv ⊢; exact hv
  | .str l, v, hv => by simp only [VR] at hv ⊢; exact hv
  | .nilp, v, hv => by simp only [VR] at hv ⊢; exact hv
  | .ptr b off, v, hv => by simp only [VR] at hv ⊢; rw [(h.d b hv.1).2]; exact ⟨(h.d b hv.1).1, hv.2⟩
  | .nils, v, hv => by simp only [VR] at hv ⊢; exact hv
  | .slice b off len cap ex sz, v, hv => by
    simp only [VR] at hv ⊢
    rw [(h.d b hv.1).2]
    obtain ⟨hd, m, e1, e2, e3, e4, e5⟩ := hv
    exact ⟨(h.d b hd).1, m, e1, e2, e3, e4, h.room e5⟩
  | .empty, v, hv => by simp only [VR] at hv ⊢; exact hv
  | .nilf, v, hv => by simp only [VR] at hv ⊢; exact hv
  | .nili, v, hv => by simp only [VR] at hv ⊢; exact hv
  | .nilm, v, hv => by simp only [VR] at hv ⊢; exact hv
  | .iface t x, v, hv => by simp only [VR] at hv ⊢; obtain ⟨y, e, hy⟩ := hv; exact ⟨y, e, VR.mono h x y hy⟩
  | .func f caps, v, hv => by simp only [VR] at hv ⊢; obtain ⟨cs, e, hy⟩ := hv; exact ⟨cs, e, VRL.mono h caps _ hy⟩
  | .map b, v, hv => by simp only [VR] at hv ⊢; rw [(h.d b hv.1).2]; exact ⟨(h.d b hv.1).1, hv.2⟩
  | .agg xs, v, hv => by simp only [VR] at hv ⊢; obtain ⟨cs, e, hy⟩ := hv; exact ⟨cs, e, VRL.mono h xs _ hy⟩
  | .tup xs, v, hv => by simp only [VR] at hv ⊢; obtain ⟨cs, e, hy⟩ := hv; exact ⟨cs, e, VRL.mono h xs _ hy⟩
  | .opq o, v, hv => by simp only [VR] at hv ⊢; exact RO.mono h.z hv
theorem VRL.mono {c c' : Cx} (h : c.le c') : ∀ (xs : List AV) (vs : List Value), VRL c xs vs → VRL c' xs vs
  | [], vs, hv => by simp only [VRL] at hv ⊢; exact hv
  | x :: xs, vs, hv => by
    simp only [VRL] at hv ⊢
    obtain ⟨y, ys, e, h1, h2⟩ := hv
    exact ⟨y, ys, e, VR.mono h x y h1, VRL.mono h xs ys h2⟩
end

theorem VRL.length {c : Cx} : ∀ {xs : List AV} {vs : List Value}, VRL c xs vs → vs.length = xs.length
  | [], vs, h => by simp only [VRL] at h; simp [h]
  | x :: xs, vs, h => by
    simp only [VRL] at h
    obtain ⟨y, ys, rfl, _, h2⟩ := h
    simp [VRL.length h2]
theorem VRL.get {c : Cx} : ∀ {xs : List AV} {vs : List Value}, VRL c xs vs → ∀ {i : Nat} {x : AV}, xs[i]? = some x → ∃ v, vs[i]? = some v ∧ VR c x v
  | [], vs, h, i, x, hx => by simp at hx
  | x0 :: xs, vs, h, i, x, hx => by
    simp only [VRL] at h
    obtain ⟨y, ys, rfl, h1, h2⟩ := h
    cases i with
    | zero => simp at hx; subst hx; exact ⟨y, by simp, h1⟩
    | succ i => simp at hx; obtain ⟨v, hv, hr⟩ := VRL.get h2 hx; exact ⟨v, by simpa using hv, hr⟩
theorem VRL.of_get {c : Cx} : ∀ {xs : List AV} {vs : List Value}, vs.length = xs.length → (∀ (i : Nat) (x : AV), xs[i]? = some x → ∃ v, vs[i]? = some v ∧ VR c x v) → VRL c xs vs
  | [], vs, hl, h => by simp only [VRL]; exact List.eq_nil_of_length_eq_zero (by simpa using hl)
  | x :: xs, [], hl, h => by simp at hl
  | x :: xs, v :: vs, hl, h => by
    simp only [VRL]
    refine ⟨v, vs, rfl, ?_, VRL.of_get (by simpa using hl) (fun i y hy => ?_)⟩
    · obtain ⟨v', hv', hr⟩ := h 0 x (by simp); simp at hv'; subst hv'; exact hr
    · obtain ⟨v', hv', hr⟩ := h (i + 1) y (by simpa using hy); exact ⟨v', by simpa using hv', hr⟩
theorem VRL.append {c : Cx} : ∀ {xs ys : List AV} {vs us : List Value}, VRL c xs vs → VRL c ys us → VRL c (xs ++ ys) (vs ++ us)
  | [], ys, vs, us, h, k => by simp only [VRL] at h; subst h; simpa using k
  | x :: xs, ys, vs, us, h, k => by
    simp only [VRL] at h
    obtain ⟨y, zs, rfl, h1, h2⟩ := h
    simp only [List.cons_append, VRL]
    exact ⟨y, zs ++ us, rfl, h1, VRL.append h2 k⟩
theorem VRL.take {c : Cx} : ∀ {n : Nat} {xs : List AV} {vs : List Value}, VRL c xs vs → VRL c (xs.take n) (vs.take n)
  | 0, xs, vs, h => by simp [VRL]
  | n + 1, [], vs, h => by simp only [VRL] at h; subst h; simp [VRL]
  | n + 1, x :: xs, vs, h => by
    simp only [VRL] at h
    obtain ⟨y, ys, rfl, h1, h2⟩ := h
    simp only [List.take_succ_cons, VRL]
    exact ⟨y, ys.take n, rfl, h1, VRL.take h2⟩
theorem VRL.drop {c : Cx} : ∀ {n : Nat} {xs : List AV} {vs : List Value}, VRL c xs vs → VRL c (xs.drop n) (vs.drop n)
  | 0, xs, vs, h => by simpa using h
  | n + 1, [], vs, h => by simp only [VRL] at h; subst h; simp [VRL]
  | n + 1, x :: xs, vs, h => by
    simp only [VRL] at h
    obtain ⟨y, ys, rfl, h1, h2⟩ := h
    simpa using VRL.drop h2

/-! ### blocks -/
def Blk.rw : Blk → Bool
  | .row _ ro => !ro
  | .map _ _ | .iter _ _ => true
  | .trow _ _ _ ro => !ro
  | .dead => false
def Blk.live : Blk → Bool
  | .dead => false
  | _ => true

def ER (c : Cx) : List (AV × AV × Nat) → List MapEntry → Prop
  | [], es => es = []
  | (k, v, t) :: r, es => ∃ e es', es = e :: es' ∧ VR c k e.key ∧ VR c v e.val ∧ e.born = t ∧ ER c r es'

def BR (c : Cx) (b : Nat) : Blk → Prop
  | .row cells ro => ∃ cs e fr, c.w.heap[(c.rho b).1]? = some (.cells cs e fr) ∧ (∀ (i : Nat) (x : AV), cells[i]? = some x → ∃ v, cs[(c.rho b).2 + i]? = some v ∧ VR c x v) ∧
      (ro = false → cs.size ≤ fr.1 ∨ fr.2 ≤ fr.1)
  | .map es clock => (c.rho b).2 = 0 ∧ ∃ ents, c.w.heap[(c.rho b).1]? = some (.map ents clock) ∧ ER c es ents.toList
  | .iter s pos => (c.rho b).2 = 0 ∧ ∃ st, c.w.heap[(c.rho b).1]? = some (.stringIter st pos) ∧ bytesOf st = s
  | .trow t cells ex ro => (c.rho b).2 = 0 ∧ ∃ cs fr, c.w.heap[(c.rho b).1]? = some (.cells cs t fr) ∧ (∀ (i : Nat) (x : AV), cells[i]? = some x → ∃ v, cs[(c.rho b).2 + i]? = some v ∧ VR c x v) ∧
      (ro = false → cs.size ≤ fr.1 ∨ fr.2 ≤ fr.1) ∧ (ex = true → cs.size = cells.length)
  | .dead => True

theorem ER.mono {c c' : Cx} (h : c.le c') : ∀ {es : List (AV × AV × Nat)} {ents : List MapEntry}, ER c es ents → ER c' es ents
  | [], ents, he => he
  | (k, v, t) :: r, ents, he => by
    simp only [ER] at he ⊢
    obtain ⟨e, es', e1, e3, e4, e5, e6⟩ := he
    exact ⟨e, es', e1, VR.mono h _ _ e3, VR.mono h _ _ e4, e5, ER.mono h e6⟩

theorem BR.mono {c c' : Cx} (h : c.le c') {b : Nat} (hd : c.D b) (hs : c'.w.heap[(c.rho b).1]? = c.w.heap[(c.rho b).1]?) {k : Blk} (hb : BR c b k) : BR c' b k := by
  have hr := (h.d b hd).2
  cases k with
  | row cells ro =>
    obtain ⟨cs, e, fr, h1, h2, h3⟩ := hb
    refine ⟨cs, e, fr, by rw [hr, hs]; exact h1, fun i x hx => ?_, h3⟩
    obtain ⟨v, hv, hvr⟩ := h2 i x hx
    exact ⟨v, by rw [hr]; exact hv, VR.mono h _ _ hvr⟩
  | map es clock =>
    obtain ⟨h0, ents, h1, h2⟩ := hb
    exact ⟨by rw [hr]; exact h0, ents, by rw [hr, hs]; exact h1, ER.mono h h2⟩
  | iter s pos =>
    obtain ⟨h0, st, h1, h2⟩ := hb
    exact ⟨by rw [hr]; exact h0, st, by rw [hr, hs]; exact h1, h2⟩
  | trow t cells ex ro =>
    obtain ⟨h0, cs, fr, h1, h2, h3, h4⟩ := hb
    refine ⟨by rw [hr]; exact h0, cs, fr, by rw [hr, hs]; exact h1, fun i x hx => ?_, h3, h4⟩
    obtain ⟨v, hv, hvr⟩ := h2 i x hx
    exact ⟨v, by rw [hr]; exact hv, VR.mono h _ _ hvr⟩
  | dead => trivial

/-- A heap, as it reads in a world. -/
structure Rel (c : Cx) (h : Hp) : Prop where
  dom : ∀ b k, h.m.get b = some k → c.D b
  lt : ∀ b, c.D b → b < h.nx
  blk : ∀ b k, h.m.get b = some k → BR c b k
  inj : ∀ b b' k k', h.m.get b = some k → h.m.get b' = some k' → b ≠ b' → k.live = true → k'.rw = true → (c.rho b).1 ≠ (c.rho b').1
  zone : ∀ k, c.Z k → k < c.w.heap.size
  out : ∀ b k, h.m.get b = some k → k.rw = true → ¬ c.Z (c.rho b).1

theorem Blk.live_of_rw {k : Blk} (h : k.rw = true) : k.live = true := by cases k <;> simp_all [Blk.rw, Blk.live]

theorem BR.lt {c : Cx} {b : Nat} {k : Blk} (h : BR c b k) (hl : k.live = true) : (c.rho b).1 < c.w.heap.size := by
  cases k with
  | row cells ro => obtain ⟨cs, e, fr, h1, _⟩ := h; exact (Array.getElem?_eq_some_iff.1 h1).1
  | map es clock => obtain ⟨_, ents, h1, _⟩ := h; exact (Array.getElem?_eq_some_iff.1 h1).1
  | iter s pos => obtain ⟨_, ents, h1, _⟩ := h; exact (Array.getElem?_eq_some_iff.1 h1).1
  | trow t cells ex ro => obtain ⟨_, cs, fr, h1, _⟩ := h; exact (Array.getElem?_eq_some_iff.1 h1).1
  | dead => simp [Blk.live] at hl

/-- A concrete block that the abstract heap may write. -/
def own (c : Cx) (h : Hp) (k : Nat) : Prop := ∃ b x, h.m.get b = some x ∧ x.rw = true ∧ (c.rho b).1 = k

/-- From (c, h) to (c', h'): what stays. -/
structure Step (c : Cx) (h : Hp) (c' : Cx) (h' : Hp) : Prop where
  le : c.le c'
  os : c'.w.os = c.w.os
  tape : c'.w.tape = c.w.tape
  output : c'.w.output = c.w.output
  size : c.w.heap.size ≤ c'.w.heap.size
  same : ∀ k, k < c.w.heap.size → ¬ own c h k → c'.w.heap[k]? = c.w.heap[k]?
  lives : ∀ b x, h'.m.get b = some x → x.live = true → (∃ b0 x0, h.m.get b0 = some x0 ∧ x0.live = true ∧ (x.rw = true → x0.rw = true) ∧ (c.rho b0).1 = (c'.rho b).1) ∨ c.w.heap.size ≤ (c'.rho b).1
  nx : h.nx ≤ h'.nx
  zn : ∀ k, c'.Z k → c.Z k ∨ c.w.heap.size ≤ k

theorem Step.refl (c : Cx) (h : Hp) : Step c h c h :=
  ⟨Cx.le.refl c, rfl, rfl, rfl, Nat.le_refl _, fun _ _ _ => rfl, fun b x hb hl => .inl ⟨b, x, hb, hl, id, rfl⟩, Nat.le_refl _, fun _ h => .inl h⟩

theorem Step.trans {c c1 c2 : Cx} {h h1 h2 : Hp} (s : Step c h c1 h1) (t : Step c1 h1 c2 h2) : Step c h c2 h2 := by
  refine ⟨s.le.trans t.le, t.os.trans s.os, t.tape.trans s.tape, t.output.trans s.output, Nat.le_trans s.size t.size, ?_, ?_, Nat.le_trans s.nx t.nx, ?_⟩
  · intro k hk hn
    rw [t.same k (Nat.lt_of_lt_of_le hk s.size) ?_, s.same k hk hn]
    rintro ⟨b, x, hb, hx, hk'⟩
    rcases s.lives b x hb (Blk.live_of_rw hx) with ⟨b0, x0, h0, _, hrw, he⟩ | hge
    · exact hn ⟨b0, x0, h0, hrw hx, he.trans hk'⟩
    · omega
  · intro b x hb hl
    rcases t.lives b x hb hl with ⟨b0, x0, h0, hl0, hrw, he⟩ | hge
    · rcases s.lives b0 x0 h0 hl0 with ⟨b1, x1, h1, hl1, hrw1, he1⟩ | hge
      · exact .inl ⟨b1, x1, h1, hl1, fun hx => hrw1 (hrw hx), he1.trans he⟩
      · exact .inr (he ▸ hge)
    · exact .inr (Nat.le_trans s.size hge)
  · intro k hk
    rcases t.zn k hk with h | h
    · exact s.zn k h
    · exact .inr (Nat.le_trans s.size h)

/-! ### the frame -/
/-- The package-level variables' own numbers. -/
def GlobOK (c : Cx) : Prop := ∀ g, g < 1000 → c.D g ∧ c.rho g = (g, 0)
theorem GlobOK.mono {c c' : Cx} (h : c.le c') (hg : GlobOK c) : GlobOK c' := fun g hl => ⟨(h.d g (hg g hl).1).1, by rw [(h.d g (hg g hl).1).2]; exact (hg g hl).2⟩
structure EnvR (c : Cx) (nt : Nat) (env : Env) (tmps : Array Value) : Prop where
  size : tmps.size = nt
  val : ∀ t v, env.get t = some v → ∃ x, tmps[t]? = some x ∧ VR c v x
  glob : GlobOK c

theorem EnvR.mono {c c' : Cx} (h : c.le c') {nt : Nat} {env : Env} {tmps : Array Value} (he : EnvR c nt env tmps) : EnvR c' nt env tmps :=
  ⟨he.size, fun t v hv => by obtain ⟨x, h1, h2⟩ := he.val t v hv; exact ⟨x, h1, VR.mono h _ _ h2⟩, he.glob.mono h⟩

theorem bytesOf_length (s : ByteArray) : (bytesOf s).length = s.size := by simp [bytesOf]

end Go.Vk
set_option linter.unusedSimpArgs false
set_option linter.unusedVariables false
namespace Go.Vk

/-! ### cells that are written -/
structure ButBlock (k : Nat) (w w' : World) : Prop where
  os : w'.os = w.os
  tape : w'.tape = w.tape
  output : w'.output = w.output
  size : w'.heap.size = w.heap.size
  other : ∀ j, j ≠ k → w'.heap[j]? = w.heap[j]?

theorem setCell_but (w : World) (a : Addr) (v : Value) : ButBlock a.block w (w.setCell a v) :=
  ⟨rfl, rfl, rfl, by simp, fun j hj => by
    simp only [World.setCell, Array.getElem?_modify]
    rw [if_neg (Ne.symm hj)]⟩
theorem setCell_block {w : World} {k off : Nat} {cs : Array Value} {e : TypeId} {fr : Nat × Nat} (v : Value) (h : w.heap[k]? = some (.cells cs e fr)) :
    (w.setCell ⟨k, off, none⟩ v).heap[k]? = some (.cells (cs.setIfInBounds off v) e fr) := by
  simp only [World.setCell, Array.getElem?_modify, if_true, h, Option.map_some, Option.isSome_none, Bool.false_eq_true, if_false]

theorem cell?_row {w : World} {k off : Nat} {cs : Array Value} {e : TypeId} {fr : Nat × Nat} (h : w.heap[k]? = some (.cells cs e fr)) : w.cell? ⟨k, off, none⟩ = cs[off]? := by
  simp [World.cell?, h]
theorem frozen?_row {w : World} {k off : Nat} {cs : Array Value} {e : TypeId} {fr : Nat × Nat} (h : w.heap[k]? = some (.cells cs e fr)) (hf : cs.size ≤ fr.1 ∨ fr.2 ≤ fr.1) (ho : off < cs.size) :
    w.frozen? ⟨k, off, none⟩ = false := by
  simp only [World.frozen?, h]
  simp
  omega

theorem add_plain (k off n : Nat) : (⟨k, off, none⟩ : Addr).add n = ⟨k, off + n, none⟩ := by
  unfold Addr.add
  split
  · simp_all
  · rfl

theorem run_storeCells {P : Program} (k off : Nat) (e : TypeId) (fr : Nat × Nat) : ∀ (vs : List Value) (i : Nat) (w : World) (cs : Array Value),
    w.heap[k]? = some (.cells cs e fr) → (cs.size ≤ fr.1 ∨ fr.2 ≤ fr.1) → off + i + vs.length ≤ cs.size → (∀ v ∈ vs, v.oneCell' = true) →
    ∃ w' cs', (storeCells ⟨k, off, none⟩ vs i).run P w = .ok () w' ∧ ButBlock k w w' ∧ w'.heap[k]? = some (.cells cs' e fr) ∧ cs'.size = cs.size ∧
      ∀ j, cs'[j]? = if off + i ≤ j ∧ j < off + i + vs.length then vs[j - (off + i)]? else cs[j]?
  | [], i, w, cs, h, hf, hl, hv => by
    refine ⟨w, cs, by simp [storeCells], ⟨rfl, rfl, rfl, rfl, fun _ _ => rfl⟩, h, rfl, fun j => ?_⟩
    rw [if_neg (by simp)]
  | v :: vs, i, w, cs, h, hf, hl, hv => by
    simp only [List.length_cons] at hl
    have ho : off + i < cs.size := by omega
    have h1 : (w.setCell ⟨k, off + i, none⟩ v).heap[k]? = some (.cells (cs.setIfInBounds (off + i) v) e fr) := setCell_block v h
    obtain ⟨w', cs', hr, hb, hk, hs, hc⟩ := run_storeCells (P := P) k off e fr vs (i + 1) (w.setCell ⟨k, off + i, none⟩ v) (cs.setIfInBounds (off + i) v) h1
      (by simpa using hf) (by simp; omega) (fun u hu => hv u (List.mem_cons_of_mem _ hu))
    refine ⟨w', cs', ?_, ?_, hk, by simpa using hs, fun j => ?_⟩
    · simp only [storeCells, Sem.run_bind, add_plain]
      rw [run_store P w _ v _ (hv v (List.mem_cons_self ..)), cell?_row h, Array.getElem?_eq_getElem ho, frozen?_row h hf ho]
      simp only [Bool.false_eq_true, if_false, Result.andThen_ok]
      exact hr
    · have h0 := setCell_but w ⟨k, off + i, none⟩ v
      exact ⟨hb.os.trans h0.os, hb.tape.trans h0.tape, hb.output.trans h0.output, hb.size.trans h0.size, fun j hj => (hb.other j hj).trans (h0.other j hj)⟩
    · rw [hc j]
      by_cases h1 : off + (i + 1) ≤ j ∧ j < off + (i + 1) + vs.length
      · rw [if_pos h1, if_pos (by simp; omega)]
        have : j - (off + i) = (j - (off + (i + 1))) + 1 := by omega
        rw [this]; simp
      · rw [if_neg h1]
        by_cases h2 : j = off + i
        · subst h2
          rw [if_pos (by simp)]
          simp [ho]
        · rw [if_neg (by simp; omega), Array.getElem?_setIfInBounds_ne (Ne.symm h2)]

/-! ### a value of one cell -/
theorem VR.one {c : Cx} {x : AV} {v : Value} (h : VR c x v) (h1 : x.one = true) : v.oneCell' = true := by
  cases x <;> simp only [AV.one, Bool.false_eq_true] at h1 <;> simp only [VR] at h
  case bool => subst h; rfl
  case int => subst h; rfl
  case str => obtain ⟨s, rfl, _⟩ := h; rfl
  case nilp => subst h; rfl
  case ptr => obtain ⟨_, rfl⟩ := h; rfl
  case nils => subst h; rfl
  case slice => obtain ⟨_, m, rfl, _⟩ := h; rfl
  case empty => obtain ⟨a, m, rfl⟩ := h; rfl
  case nilf => subst h; rfl
  case nili => subst h; rfl
  case nilm => subst h; rfl
  case iface => obtain ⟨y, rfl, _⟩ := h; rfl
  case func => obtain ⟨y, rfl, _⟩ := h; rfl
  case map => obtain ⟨_, rfl⟩ := h; rfl
  case opq o =>
    cases o with
    | nat n => obtain ⟨k, cs, e, fr, sl, o, rfl, _⟩ := h; rfl
    | frac s n d => obtain ⟨_, k, cs, e, fr, vn, vd, o, rfl, _⟩ := h; rfl

theorem VRL.ones {c : Cx} : ∀ {xs : List AV} {vs : List Value}, VRL c xs vs → xs.all AV.one = true → ∀ v ∈ vs, v.oneCell' = true
  | [], vs, h, _, v, hv => by simp only [VRL] at h; subst h; simp at hv
  | x :: xs, vs, h, ha, v, hv => by
    simp only [VRL] at h
    obtain ⟨y, ys, rfl, h1, h2⟩ := h
    simp only [List.all_cons, Bool.and_eq_true] at ha
    rcases List.mem_cons.1 hv with rfl | hv
    · exact h1.one ha.1
    · exact VRL.ones h2 ha.2 v hv

/-- A value's cells. -/
theorem VR.cells {c : Cx} {x : AV} {v : Value} (h : VR c x v) (hu : ∀ (_ : x = .undef), False) : VRL c x.cells v.cells.toList := by
  cases x
  case undef => exact (hu rfl).elim
  case agg xs =>
    simp only [VR] at h
    obtain ⟨vs, rfl, h2⟩ := h
    exact h2
  all_goals
    have key : v.cells = #[v] := by
      simp only [VR] at h
      first
        | (subst h; rfl)
        | (obtain ⟨_, rfl, _⟩ := h; rfl)
        | (obtain ⟨_, _, rfl, _⟩ := h; rfl)
        | (obtain ⟨_, rfl⟩ := h; rfl)
        | (obtain ⟨_, _, rfl⟩ := h; rfl)
        | (rename_i o; cases o with
            | nat n => obtain ⟨k, cs, e, fr, sl, o, rfl, _⟩ := h; rfl
            | frac s n d => obtain ⟨_, k, cs, e, fr, vn, vd, o, rfl, _⟩ := h; rfl)
    rw [key]
    simp only [AV.cells, VRL]
    exact ⟨v, [], rfl, h, rfl⟩

/-! ### a new block -/
/-- One block more. -/
structure OneMore (w w' : World) : Prop where
  os : w'.os = w.os
  tape : w'.tape = w.tape
  output : w'.output = w.output
  size : w'.heap.size = w.heap.size + 1
  old : ∀ k, k < w.heap.size → w'.heap[k]? = w.heap[k]?

theorem alloc_old (w : World) (o : Obj) {k : Nat} (h : k < w.heap.size) : (w.alloc o).heap[k]? = w.heap[k]? := by
  show (w.heap.push o)[k]? = _
  rw [Array.getElem?_push, if_neg (by omega)]
theorem alloc_new (w : World) (o : Obj) : (w.alloc o).heap[w.heap.size]? = some o := by
  show (w.heap.push o)[w.heap.size]? = _
  rw [Array.getElem?_push, if_pos rfl]
theorem alloc_more (w : World) (o : Obj) : OneMore w (w.alloc o) := ⟨rfl, rfl, rfl, by simp, fun k hk => alloc_old w o hk⟩
theorem OneMore.drew {w w' : World} (h : OneMore w.drew w') : OneMore w w' := ⟨h.os, h.tape, h.output, h.size, h.old⟩

def Cx.put (c : Cx) (w' : World) (id : Nat) : Cx :=
  { w := w', Z := c.Z, rho := fun b => if b = id then (c.w.heap.size, 0) else c.rho b, D := fun b => b = id ∨ c.D b }

theorem Cx.le_put {c : Cx} {h : Hp} (hr : Rel c h) {w' : World} (ho : OneMore c.w w') {id : Nat} (hd : ¬ c.D id) : c.le (c.put w' id) where
  d := fun b hb => ⟨.inr hb, by
    have : b ≠ id := fun e => hd (e ▸ hb)
    simp [Cx.put, this]⟩
  z := fun k hk => ⟨hk, ho.old _ (hr.zone k hk)⟩
  rooms := fun k cs e fr hk => ⟨cs, fr, by
    rw [show (c.put w' id).w = w' from rfl, ho.old _ (Array.getElem?_eq_some_iff.1 hk).1]; exact hk, rfl⟩

theorem put_step {c : Cx} {h : Hp} (hr : Rel c h) {w' : World} (ho : OneMore c.w w') {id : Nat} (blk : Blk) (hd : ¬ c.D id) (hid : id < h.nx) (hb : BR (c.put w' id) id blk) :
    Rel (c.put w' id) { h with m := h.m.set id blk } ∧ Step c h (c.put w' id) { h with m := h.m.set id blk } := by
  have hle := Cx.le_put hr ho hd
  have hg : ∀ b, b ≠ id → (h.m.set id blk).get b = h.m.get b := fun b hb => PT.get_set_ne _ _ hb
  have hrho : ∀ b, b ≠ id → (c.put w' id).rho b = c.rho b := fun b hb => by simp [Cx.put, hb]
  have hnew : (c.put w' id).rho id = (c.w.heap.size, 0) := by simp [Cx.put]
  have hw : (c.put w' id).w = w' := rfl
  refine ⟨⟨?_, ?_, ?_, ?_, ?_, ?_⟩, ⟨hle, ho.os, ho.tape, ho.output, ?_, ?_, ?_, Nat.le_refl _, fun k hk => .inl hk⟩⟩
  · intro b k hk
    by_cases e : b = id
    · exact .inl e
    · exact .inr (hr.dom b k (by rw [← hg b e]; exact hk))
  · rintro b (rfl | hb)
    · exact hid
    · exact hr.lt b hb
  · intro b k hk
    by_cases e : b = id
    · subst e; rw [show ({ h with m := h.m.set b blk } : Hp).m.get b = some blk from PT.get_set_same _ _ _] at hk; injection hk with hk; subst hk; exact hb
    · have hk' : h.m.get b = some k := by rw [← hg b e]; exact hk
      cases hl : k.live with
      | true => exact BR.mono hle (hr.dom b k hk') (by rw [hw]; exact ho.old _ ((hr.blk b k hk').lt hl)) (hr.blk b k hk')
      | false => cases k <;> simp [Blk.live] at hl; trivial
  · intro b b' k k' hk hk' hne hl hrw
    by_cases e : b = id
    · subst e
      have hk2 : h.m.get b' = some k' := by rw [← hg b' (Ne.symm hne)]; exact hk'
      rw [hnew, hrho b' (Ne.symm hne)]
      have := (hr.blk b' k' hk2).lt (Blk.live_of_rw hrw)
      simp only; omega
    · have hk1 : h.m.get b = some k := by rw [← hg b e]; exact hk
      by_cases e' : b' = id
      · subst e'
        rw [hnew, hrho b e]
        have := (hr.blk b k hk1).lt hl
        simp only; omega
      · have hk2 : h.m.get b' = some k' := by rw [← hg b' e']; exact hk'
        rw [hrho b e, hrho b' e']
        exact hr.inj b b' k k' hk1 hk2 hne hl hrw
  · intro k hk
    have := hr.zone k hk
    rw [hw, ho.size]; omega
  · intro b k hk hrw hz
    by_cases e : b = id
    · subst e
      rw [hnew] at hz
      exact absurd (hr.zone _ hz) (by simp)
    · rw [hrho b e] at hz
      exact hr.out b k (by rw [← hg b e]; exact hk) hrw hz
  · rw [hw, ho.size]; omega
  · intro k hk _
    exact ho.old _ hk
  · intro b x hb hl
    by_cases e : b = id
    · subst e; right; rw [hnew]; exact Nat.le_refl _
    · left; exact ⟨b, x, by rw [← hg b e]; exact hb, hl, fun hh => hh, by rw [hrho b e]⟩

/-! ### drawing -/
def Cx.draw (c : Cx) : Cx := { c with w := c.w.drew }
theorem draw_step {c : Cx} {h : Hp} (hr : Rel c h) : Rel c.draw h ∧ Step c h c.draw h := by
  have hle : c.le c.draw := ⟨fun b hb => ⟨hb, rfl⟩, fun k hk => ⟨hk, rfl⟩, fun k cs e fr hk => ⟨cs, fr, hk, rfl⟩⟩
  refine ⟨⟨hr.dom, hr.lt, fun b k hk => BR.mono hle (hr.dom b k hk) rfl (hr.blk b k hk), hr.inj, hr.zone, hr.out⟩, ⟨hle, rfl, rfl, rfl, Nat.le_refl _, fun _ _ _ => rfl, fun b x hb hl => .inl ⟨b, x, hb, hl, id, rfl⟩, Nat.le_refl _, fun _ hk => .inl hk⟩⟩

/-- The counter of blocks goes up. -/
theorem nx_rel {c : Cx} {h : Hp} (hr : Rel c h) (n : Nat) : Rel c { h with nx := h.nx + n } := ⟨hr.dom, fun b hb => Nat.lt_of_lt_of_le (hr.lt b hb) (Nat.le_add_right _ _), hr.blk, hr.inj, hr.zone, hr.out⟩
theorem nx_step {c : Cx} {h : Hp} (n : Nat) : Step c h c { h with nx := h.nx + n } :=
  ⟨Cx.le.refl c, rfl, rfl, rfl, Nat.le_refl _, fun _ _ _ => rfl, fun b x hb hl => .inl ⟨b, x, hb, hl, id, rfl⟩, Nat.le_add_right _ _, fun _ hk => .inl hk⟩

/-! ### a block whose contents change -/
theorem change_stepT {c : Cx} {h : Hp} (hr : Rel c h) {w' : World} {b : Nat} {old blk : Blk} (hb : h.m.get b = some old) (hw : old.rw = true)
    (hbut : ButBlock (c.rho b).1 c.w w')
    (hrooms : ∀ (cs : Array Value) (e : TypeId) (fr : Nat × Nat), c.w.heap[(c.rho b).1]? = some (.cells cs e fr) → ∃ (cs' : Array Value) (fr' : Nat × Nat), w'.heap[(c.rho b).1]? = some (.cells cs' e fr') ∧ cs'.size = cs.size)
    (hbr : c.le { c with w := w' } → BR { c with w := w' } b blk) :
    Rel { c with w := w' } { h with m := h.m.set b blk } ∧ Step c h { c with w := w' } { h with m := h.m.set b blk } := by
  have hzb : ¬ c.Z (c.rho b).1 := hr.out b old hb hw
  have hle : c.le { c with w := w' } := ⟨fun i hi => ⟨hi, rfl⟩, fun k hk => ⟨hk, hbut.other k (fun e => hzb (e ▸ hk))⟩, fun k cs e fr hk => by
    by_cases e1 : k = (c.rho b).1
    · subst e1; exact hrooms cs e fr hk
    · exact ⟨cs, fr, by rw [show ({ c with w := w' } : Cx).w = w' from rfl, hbut.other k e1]; exact hk, rfl⟩⟩
  have hg : ∀ i, i ≠ b → (h.m.set b blk).get i = h.m.get i := fun i hi => PT.get_set_ne _ _ hi
  have hsame : (h.m.set b blk).get b = some blk := PT.get_set_same _ _ _
  refine ⟨⟨?_, hr.lt, ?_, ?_, ?_, ?_⟩, ⟨hle, hbut.os, hbut.tape, hbut.output, by rw [show ({ c with w := w' } : Cx).w = w' from rfl, hbut.size]; exact Nat.le_refl _, ?_, ?_, Nat.le_refl _, fun k hk => .inl hk⟩⟩
  · intro i k hk
    by_cases e : i = b
    · subst e; exact hr.dom i old hb
    · exact hr.dom i k (by rw [← hg i e]; exact hk)
  · intro i k hk
    by_cases e : i = b
    · subst e; rw [show ({ h with m := h.m.set i blk } : Hp).m.get i = some blk from hsame] at hk; injection hk with hk; subst hk; exact hbr hle
    · have hk' : h.m.get i = some k := by rw [← hg i e]; exact hk
      cases hl : k.live with
      | true => exact BR.mono hle (hr.dom i k hk') (hbut.other _ (hr.inj i b k old hk' hb e hl hw)) (hr.blk i k hk')
      | false => cases k <;> simp [Blk.live] at hl; trivial
  · intro i j k k' hk hk' hne hl hw'
    by_cases e : i = b
    · subst e
      rw [show ({ h with m := h.m.set i blk } : Hp).m.get i = some blk from hsame] at hk; injection hk with hk; subst hk
      exact hr.inj i j old k' hb (by rw [← hg j (Ne.symm hne)]; exact hk') hne (Blk.live_of_rw hw) hw'
    · have hk1 : h.m.get i = some k := by rw [← hg i e]; exact hk
      by_cases e' : j = b
      · subst e'; exact hr.inj i j k old hk1 hb hne hl hw
      · exact hr.inj i j k k' hk1 (by rw [← hg j e']; exact hk') hne hl hw'
  · intro k hk
    rw [show ({ c with w := w' } : Cx).w = w' from rfl, hbut.size]; exact hr.zone k hk
  · intro i k hk hw' hz
    by_cases e : i = b
    · subst e; exact hzb hz
    · exact hr.out i k (by rw [← hg i e]; exact hk) hw' hz
  · intro k hk hn
    exact hbut.other k (fun e => hn ⟨b, old, hb, hw, e.symm⟩)
  · intro i x hi hl
    by_cases e : i = b
    · subst e; exact .inl ⟨i, old, hb, Blk.live_of_rw hw, fun _ => hw, rfl⟩
    · exact .inl ⟨i, x, by rw [← hg i e]; exact hi, hl, id, rfl⟩

theorem change_step {c : Cx} {h : Hp} (hr : Rel c h) {w' : World} {b : Nat} {old blk : Blk} (hb : h.m.get b = some old) (hw : old.rw = true) (hnew : blk.live = true → blk.rw = true)
    (hbut : ButBlock (c.rho b).1 c.w w')
    (hrooms : ∀ (cs : Array Value) (e : TypeId) (fr : Nat × Nat), c.w.heap[(c.rho b).1]? = some (.cells cs e fr) → ∃ (cs' : Array Value) (fr' : Nat × Nat), w'.heap[(c.rho b).1]? = some (.cells cs' e fr') ∧ cs'.size = cs.size)
    (hbr : c.le { c with w := w' } → BR { c with w := w' } b blk) :
    Rel { c with w := w' } { h with m := h.m.set b blk } ∧ Step c h { c with w := w' } { h with m := h.m.set b blk } := change_stepT hr hb hw hbut hrooms hbr

theorem getCells_some {h : Hp} {b off n : Nat} {cs : List AV} (hg : getCells h b off n = some cs) : ∃ all ro, h.m.get b = some (.row all ro) ∧ off + n ≤ all.length ∧ cs = (all.drop off).take n := by
  unfold getCells at hg
  split at hg
  · rename_i all ro hb
    split at hg
    · rename_i hl
      injection hg with hg
      exact ⟨all, ro, hb, hl, hg.symm⟩
    · cases hg
  · cases hg

theorem getCells_length {h : Hp} {b off n : Nat} {cs : List AV} (hg : getCells h b off n = some cs) : cs.length = n := by
  obtain ⟨all, ro, _, hl, rfl⟩ := getCells_some hg
  simp; omega

theorem getT_some {h : Hp} {b off n : Nat} {cs : List AV} (hg : getT h b off n = some cs) : ∃ t all ex ro, h.m.get b = some (.trow t all ex ro) ∧ off + n ≤ all.length ∧ cs = (all.drop off).take n := by
  unfold getT at hg
  split at hg
  · rename_i t all ex ro hb
    split at hg
    · rename_i hl
      injection hg with hg
      exact ⟨t, all, ex, ro, hb, hl, hg.symm⟩
    · cases hg
  · cases hg
theorem getT_length {h : Hp} {b off n : Nat} {cs : List AV} (hg : getT h b off n = some cs) : cs.length = n := by
  obtain ⟨_, all, _, ro, _, hl, rfl⟩ := getT_some hg
  simp; omega
theorem BR.asRow {c : Cx} {b : Nat} {t : TypeId} {cells : List AV} {ex ro : Bool} (h : BR c b (.trow t cells ex ro)) : BR c b (.row cells ro) := by
  obtain ⟨h0, cs, fr, h1, h2, h3, h4⟩ := h
  exact ⟨cs, t, fr, h1, h2, h3⟩

/-- What a row's cells read as. -/
theorem row_vals {c : Cx} {b off n : Nat} {all : List AV} {ro : Bool} (hb : BR c b (.row all ro)) (hl : off + n ≤ all.length) :
    ∃ vs : List Value, VRL c ((all.drop off).take n) vs ∧ ∃ all e fr, c.w.heap[(c.rho b).1]? = some (.cells all e fr) ∧ ∀ (j : Nat) (v : Value), vs[j]? = some v → all[(c.rho b).2 + off + j]? = some v := by
  obtain ⟨vcs, e, fr, h1, h2, h3⟩ := hb
  have hget : ∀ j, j < n → ∃ v, vcs[(c.rho b).2 + off + j]? = some v ∧ VR c (all.getD (off + j) .undef) v := fun j hj => by
    obtain ⟨v, hv, hvr⟩ := h2 (off + j) (all.getD (off + j) .undef) (by simp [List.getD, List.getElem?_eq_getElem (show off + j < all.length by omega)])
    exact ⟨v, by rw [Nat.add_assoc]; exact hv, hvr⟩
  refine ⟨(List.range n).map fun j => vcs.getD ((c.rho b).2 + off + j) undef, VRL.of_get (by simp; omega) ?_, vcs, e, fr, h1, ?_⟩
  · intro i x hx
    have hi : i < n := by
      have := (List.getElem?_eq_some_iff.1 hx).1
      simp at this; omega
    obtain ⟨v, hv, hvr⟩ := hget i hi
    refine ⟨v, ?_, ?_⟩
    · simp [hi, Array.getD_eq_getD_getElem?, hv]
    · have : x = all.getD (off + i) .undef := by
        rw [List.getElem?_take_of_lt hi, List.getElem?_drop] at hx
        simp [List.getD, hx]
      rw [this]; exact hvr
  · intro j v hv
    have hj : j < n := by
      have := (List.getElem?_eq_some_iff.1 hv).1
      simpa using this
    obtain ⟨u, hu, _⟩ := hget j hj
    simp [hj, Array.getD_eq_getD_getElem?, hu] at hv
    rw [hu, hv]
theorem getCells_vals {c : Cx} {h : Hp} (hr : Rel c h) {b off n : Nat} {cs : List AV} (hg : getCells h b off n = some cs) :
    ∃ vs : List Value, VRL c cs vs ∧ ∃ all e fr, c.w.heap[(c.rho b).1]? = some (.cells all e fr) ∧ ∀ (j : Nat) (v : Value), vs[j]? = some v → all[(c.rho b).2 + off + j]? = some v := by
  obtain ⟨all, ro, hb, hl, rfl⟩ := getCells_some hg
  exact row_vals (hr.blk b _ hb) hl
theorem getT_vals {c : Cx} {h : Hp} (hr : Rel c h) {b off n : Nat} {cs : List AV} (hg : getT h b off n = some cs) :
    ∃ vs : List Value, VRL c cs vs ∧ ∃ all e fr, c.w.heap[(c.rho b).1]? = some (.cells all e fr) ∧ ∀ (j : Nat) (v : Value), vs[j]? = some v → all[(c.rho b).2 + off + j]? = some v := by
  obtain ⟨t, all, ex, ro, hb, hl, rfl⟩ := getT_some hg
  exact row_vals (BR.asRow (hr.blk b _ hb)) hl

/-- Cells that are put. -/
theorem row_put {P : Program} {c : Cx} {h : Hp} (hr : Rel c h) {b off : Nat} {xs old : List AV} {vs : List Value} {ob nb : Blk} (hb : h.m.get b = some ob) (hw : ob.rw = true) {cs : Array Value} {e : TypeId} {fr : Nat × Nat}
    (g1 : c.w.heap[(c.rho b).1]? = some (.cells cs e fr)) (g2 : ∀ (i : Nat) (x : AV), old[i]? = some x → ∃ v, cs[(c.rho b).2 + i]? = some v ∧ VR c x v) (g3 : cs.size ≤ fr.1 ∨ fr.2 ≤ fr.1)
    (hv : VRL c xs vs) (hl : off + xs.length ≤ old.length) (ha : xs.all AV.one = true)
    (hnb : ∀ (w' : World) (cs' : Array Value), w'.heap[(c.rho b).1]? = some (.cells cs' e fr) → cs'.size = cs.size →
      (∀ (i : Nat) (x : AV), (old.take off ++ xs ++ old.drop (off + xs.length))[i]? = some x → ∃ v, cs'[(c.rho b).2 + i]? = some v ∧ VR { c with w := w' } x v) → BR { c with w := w' } b nb) :
    ∃ w', (storeCells ⟨(c.rho b).1, (c.rho b).2 + off, none⟩ vs).run P c.w = .ok () w' ∧ Rel { c with w := w' } { h with m := h.m.set b nb } ∧ Step c h { c with w := w' } { h with m := h.m.set b nb } := by
  have hvl := hv.length
  have hsz : ∀ i, i < old.length → (c.rho b).2 + i < cs.size := fun i hi => by
    obtain ⟨v, hv', _⟩ := g2 i (old[i]) (List.getElem?_eq_getElem hi)
    exact (Array.getElem?_eq_some_iff.1 hv').1
  have hfit : (c.rho b).2 + off + 0 + vs.length ≤ cs.size ∨ vs = [] := by
    rcases Nat.eq_zero_or_pos xs.length with h0 | h0
    · right; exact List.eq_nil_of_length_eq_zero (by omega)
    · left; have := hsz (off + xs.length - 1) (by omega); omega
  rcases hfit with hfit | rfl
  · obtain ⟨w', cs', r1, r2, r3, r4, r5⟩ := run_storeCells (P := P) (c.rho b).1 ((c.rho b).2 + off) e fr vs 0 c.w cs g1 g3 hfit (hv.ones ha)
    have hres := change_stepT (w' := w') (blk := nb) hr hb hw r2 (fun cs0 e0 fr0 h0 => by
        rw [g1] at h0; injection h0 with h0; injection h0 with h01 h02 h03; subst h01 h02 h03; exact ⟨cs', fr, r3, r4⟩) (fun hle => by
        refine hnb w' cs' r3 r4 (fun i x hx => ?_)
        rw [r5]
        have hlen : (old.take off).length = off := by simp; omega
        by_cases hi1 : i < off
        · rw [if_neg (by omega)]
          rw [List.append_assoc, List.getElem?_append_left (by omega), List.getElem?_take_of_lt hi1] at hx
          obtain ⟨v, hv1, hv2⟩ := g2 i x hx
          exact ⟨v, hv1, VR.mono hle _ _ hv2⟩
        · by_cases hi2 : i < off + xs.length
          · rw [if_pos (by omega)]
            rw [List.append_assoc, List.getElem?_append_right (by omega), hlen, List.getElem?_append_left (by omega)] at hx
            obtain ⟨v, hv1, hv2⟩ := hv.get hx
            refine ⟨v, ?_, VR.mono hle _ _ hv2⟩
            rw [show (c.rho b).2 + i - ((c.rho b).2 + off + 0) = i - off by omega]; exact hv1
          · rw [if_neg (by omega)]
            rw [List.append_assoc, List.getElem?_append_right (by omega), hlen, List.getElem?_append_right (by omega), List.getElem?_drop] at hx
            obtain ⟨v, hv1, hv2⟩ := g2 i x (by rw [show off + xs.length + (i - off - xs.length) = i by omega] at hx; exact hx)
            exact ⟨v, hv1, VR.mono hle _ _ hv2⟩)
    exact ⟨w', by simpa using r1, hres.1, hres.2⟩
  · have hx : xs = [] := List.eq_nil_of_length_eq_zero (by simpa using hvl.symm)
    subst hx
    have hres := change_stepT (w' := c.w) (blk := nb) hr hb hw ⟨rfl, rfl, rfl, rfl, fun _ _ => rfl⟩ (fun cs0 e0 fr0 h0 => ⟨cs0, fr0, h0, rfl⟩) (fun hle => by
        have : old.take off ++ [] ++ old.drop (off + 0) = old := by simp
        refine hnb c.w cs g1 rfl (fun i x hx => ?_)
        rw [List.length_nil, this] at hx
        exact g2 i x hx)
    exact ⟨c.w, by simp [storeCells], hres.1, hres.2⟩

theorem putCells_run {P : Program} {c : Cx} {h h1 : Hp} (hr : Rel c h) {b off : Nat} {xs : List AV} {vs : List Value} (hv : VRL c xs vs) (hp : putCells h b off xs = some h1) :
    ∃ w', (storeCells ⟨(c.rho b).1, (c.rho b).2 + off, none⟩ vs).run P c.w = .ok () w' ∧ Rel { c with w := w' } h1 ∧ Step c h { c with w := w' } h1 ∧ h1.nx = h.nx := by
  unfold putCells at hp
  split at hp
  · rename_i old hb
    split at hp
    · rename_i hc
      obtain ⟨hl, ha⟩ := hc
      injection hp with hp
      obtain ⟨cs, e, fr, g1, g2, g3⟩ := hr.blk b _ hb
      obtain ⟨w', r1, r2, r3⟩ := row_put (P := P) (nb := .row (old.take off ++ xs ++ old.drop (off + xs.length)) false) hr hb rfl g1 g2 (g3 rfl) hv hl ha (fun w' cs' q1 q2 q3 => ⟨cs', e, fr, q1, q3, fun _ => by rw [q2]; exact g3 rfl⟩)
      subst hp
      exact ⟨w', r1, r2, r3, rfl⟩
    · cases hp
  · cases hp
theorem putT_run {P : Program} {c : Cx} {h h1 : Hp} (hr : Rel c h) {b off : Nat} {xs : List AV} {vs : List Value} (hv : VRL c xs vs) (hp : putT h b off xs = some h1) :
    ∃ w', (storeCells ⟨(c.rho b).1, (c.rho b).2 + off, none⟩ vs).run P c.w = .ok () w' ∧ Rel { c with w := w' } h1 ∧ Step c h { c with w := w' } h1 ∧ h1.nx = h.nx := by
  unfold putT at hp
  split at hp
  · rename_i t old ex hb
    split at hp
    · rename_i hc
      obtain ⟨hl, ha⟩ := hc
      injection hp with hp
      obtain ⟨g0, cs, fr, g1, g2, g3, g4⟩ := hr.blk b _ hb
      obtain ⟨w', r1, r2, r3⟩ := row_put (P := P) (nb := .trow t (old.take off ++ xs ++ old.drop (off + xs.length)) ex false) hr hb rfl g1 g2 (g3 rfl) hv hl ha (fun w' cs' q1 q2 q3 => ⟨g0, cs', fr, q1, q3, fun _ => by rw [q2]; exact g3 rfl, fun he => by
        rw [q2, g4 he]; simp only [List.length_append, List.length_take, List.length_drop]; omega⟩)
      subst hp
      exact ⟨w', r1, r2, r3, rfl⟩
    · cases hp
  · cases hp

end Go.Vk
set_option linter.unusedSimpArgs false
set_option linter.unusedVariables false
namespace Go.Vk

/-! ### constants -/
mutual
theorem absC_ok (c : Cx) : ∀ v : Value, VR c (absC v) v
  | .bool b => by simp [absC, VR]
  | .int k n => by simp [absC, VR]
  | .float k b => by simp [absC, VR]
  | .complex k a b => by simp [absC, VR]
  | .string s => by simp [absC, VR]
  | .pointer none => by simp [absC, VR]
  | .pointer (some a) => by simp [absC, VR]
  | .slice (some a) l c => by simp [absC, VR]
  | .slice none l m => by
    unfold absC
    split <;> simp_all [VR]
  | .map none => by simp [absC, VR]
  | .map (some r) => by simp [absC, VR]
  | .chan r => by simp [absC, VR]
  | .func f a b => by simp [absC, VR]
  | .nilFunc => by simp [absC, VR]
  | .iface t v => by simp [absC, VR]
  | .nilIface => by simp [absC, VR]
  | .agg ⟨cs⟩ => by simp only [absC, VR]; exact ⟨⟨cs⟩, rfl, absL_ok c cs⟩
  | .tuple ⟨cs⟩ => by simp only [absC, VR]; exact ⟨⟨cs⟩, rfl, absL_ok c cs⟩
theorem absL_ok (c : Cx) : ∀ vs : List Value, VRL c (absL vs) vs
  | [] => by simp [absL, VRL]
  | v :: vs => by simp only [absL, VRL]; exact ⟨v, vs, rfl, absC_ok c v, absL_ok c vs⟩
end

theorem one_cells {c : Cx} {x : AV} {u : Value} (h1 : x.cells = [x]) (h2 : u.cells = #[u]) (h3 : VR c x u) : VRL c x.cells u.cells.toList := by
  rw [h1, h2]; simp only [VRL]; exact ⟨u, [], rfl, h3, rfl⟩
theorem absC_cells (c : Cx) (v : Value) : VRL c (absC v).cells v.cells.toList := by
  cases v
  case agg cs => obtain ⟨cs⟩ := cs; simp only [absC, AV.cells, Value.cells]; exact absL_ok c cs
  case tuple cs => obtain ⟨cs⟩ := cs; exact one_cells rfl rfl (absC_ok c _)
  case pointer a => cases a <;> exact one_cells rfl rfl (absC_ok c _)
  case map a => cases a <;> exact one_cells rfl rfl (absC_ok c _)
  case slice a l m => refine one_cells ?_ rfl (absC_ok c _); unfold absC; split <;> first | rfl | (rename_i h; cases h)
  all_goals exact one_cells rfl rfl (absC_ok c _)

/-! ### the model's small words -/
section
variable {P : Program} {w : World}
theorem r_under {t : TypeId} {d : TypeDesc} (h : P.underlying t = some d) : (underlying t).run P w = .ok d w := by simp [underlying, h]
theorem r_info {t : TypeId} {i : TypeInfo} (h : P.info? t = some i) : (typeInfo t).run P w = .ok i w := by simp [typeInfo, h]
theorem r_size {t : TypeId} {i : TypeInfo} (h : P.info? t = some i) : (sizeOf t).run P w = .ok i.size w := by simp [sizeOf, r_info h]
theorem r_size' {t : TypeId} (h : hasT P t = true) : (sizeOf t).run P w = .ok (sizeT P t) w := by
  unfold hasT at h
  split at h
  · rename_i i d hi hd; rw [r_size hi]; simp [sizeT, hi]
  · cases h
theorem info_of_hasT {t : TypeId} (h : hasT P t = true) : ∃ j, P.info? t = some j := by
  unfold hasT at h
  split at h
  · rename_i i d hi hd; exact ⟨i, hi⟩
  · cases h
theorem info_of_size {t : TypeId} (h : 0 < sizeT P t) : ∃ j, P.info? t = some j ∧ j.size ≠ 0 := by
  unfold sizeT at h
  split at h
  · rename_i i hi; exact ⟨i, hi, by omega⟩
  · omega
theorem under_of_hasT {t : TypeId} (h : hasT P t = true) : ∃ d, P.underlying t = some d := by
  unfold hasT at h
  split at h
  · rename_i i d hi hd; exact ⟨d, hd⟩
  · cases h
theorem r_zero {t : TypeId} {z : List AV} (h : zeroT P t = some z) : ∃ v : Value, z = (absC v).cells ∧ (zeroValue t).run P w = .ok v w := by
  unfold zeroT at h
  split at h
  · rename_i i hi
    split at h
    · rename_i v hv
      injection h with h
      exact ⟨v, h.symm, by simp [zeroValue, r_info hi, hv]⟩
    · cases h
  · cases h
theorem info_of_under {t : TypeId} {d : TypeDesc} (h : P.underlying t = some d) : ∃ i, P.info? t = some i := by
  unfold Program.underlying at h
  cases hi : P.info? t with
  | some i => exact ⟨i, rfl⟩
  | none => rw [hi] at h; simp at h
theorem r_agg {t : TypeId} {d : TypeDesc} (h : P.underlying t = some d) : (isAgg t).run P w = .ok (aggT P t) w := by
  simp only [isAgg, Sem.run_bind, r_under h, Result.andThen_ok, aggT, h]
  cases d <;> simp
theorem under_of_has {t : TypeId} (h : aggT P t = true) : ∃ d, P.underlying t = some d := by
  unfold aggT at h
  cases hd : P.underlying t with
  | some d => exact ⟨d, rfl⟩
  | none => rw [hd] at h; simp at h
end

/-! ### the frame of the lemmas -/
def laid (h : Hp) (id : Nat) : Option Blk → Hp
  | none => h
  | some b => { h with m := h.m.set id b }
/-- A value that came of a run: what the abstract machine says of it. -/
def Good (P : Program) (c : Cx) (h : Hp) (id : Nat) (S : Sem Value) (r : AV × Option Blk) : Prop :=
  ∃ x c', S.run P c.w = .ok x c'.w ∧ Rel c' (laid h id r.2) ∧ Step c h c' (laid h id r.2) ∧ VR c' r.1 x ∧ ∀ b, c'.D b → c.D b ∨ b = id

section
variable {P : Program} {c : Cx} {h : Hp} {id : Nat}
theorem Good.same {S : Sem Value} {x : Value} {v : AV} (hr : Rel c h) (hs : S.run P c.w = .ok x c.w) (hv : VR c v x) : Good P c h id S (v, none) :=
  ⟨x, c, hs, hr, Step.refl c h, hv, fun _ hb => .inl hb⟩
theorem Good.newW {S : Sem Value} {x : Value} {v : AV} {blk : Blk} (w' : World) (ho : OneMore c.w w') (hr : Rel c h) (hd : ¬ c.D id) (hid : id < h.nx) (hs : S.run P c.w = .ok x w')
    (hb : c.le (c.put w' id) → BR (c.put w' id) id blk) (hv : c.le (c.put w' id) → VR (c.put w' id) v x) : Good P c h id S (v, some blk) := by
  have hle := Cx.le_put hr ho hd
  have := put_step hr ho blk hd hid (hb hle)
  exact ⟨x, c.put w' id, hs, this.1, this.2, hv hle, fun b hb => by rcases hb with rfl | hb <;> simp_all⟩
/-- A new row of cells. -/
theorem Good.row {S : Sem Value} {x : Value} {v : AV} {cells : List AV} {vs : List Value} {e : TypeId} (hr : Rel c h) (hd : ¬ c.D id) (hid : id < h.nx) (hc : VRL c cells vs)
    (hs : S.run P c.w = .ok x (c.w.alloc (.cells vs.toArray e))) (hv : c.le (c.put (c.w.alloc (.cells vs.toArray e)) id) → VR (c.put (c.w.alloc (.cells vs.toArray e)) id) v x) : Good P c h id S (v, some (.row cells false)) := by
  refine Good.newW _ (alloc_more _ _) hr hd hid hs (fun hle => ⟨vs.toArray, e, (0, 0), ?_, fun i y hy => ?_, fun _ => .inr (Nat.le_refl _)⟩) hv
  · simp only [Cx.put, if_true]; exact alloc_new _ _
  · obtain ⟨u, hu, hur⟩ := hc.get hy
    refine ⟨u, ?_, VR.mono hle _ _ hur⟩
    simp [Cx.put, hu]
theorem put_rho (w' : World) : (c.put w' id).rho id = (c.w.heap.size, 0) := by simp [Cx.put]
theorem put_d (w' : World) : (c.put w' id).D id := .inl rfl
theorem put_w (w' : World) : (c.put w' id).w = w' := rfl

theorem r_newRow {w : World} (e : TypeId) (cells : Array Value) : (newRow e cells).run P w = .ok ⟨w.heap.size, 0, none⟩ (w.alloc (.cells cells e)) := by
  simp [newRow]

/-! ### making variables -/
/-- A new row of cells, its type known. -/
theorem Good.trow {S : Sem Value} {x : Value} {v : AV} {cells : List AV} {vs : List Value} {e : TypeId} (hr : Rel c h) (hd : ¬ c.D id) (hid : id < h.nx) (hc : VRL c cells vs)
    (hs : S.run P c.w = .ok x (c.w.alloc (.cells vs.toArray e))) (hv : c.le (c.put (c.w.alloc (.cells vs.toArray e)) id) → VR (c.put (c.w.alloc (.cells vs.toArray e)) id) v x) : Good P c h id S (v, some (.trow e cells true false)) := by
  refine Good.newW _ (alloc_more _ _) hr hd hid hs (fun hle => ⟨by simp [Cx.put], vs.toArray, (0, 0), ?_, fun i y hy => ?_, fun _ => .inr (Nat.le_refl _), fun _ => by simpa using hc.length⟩) hv
  · simp only [Cx.put, if_true]; exact alloc_new _ _
  · obtain ⟨u, hu, hur⟩ := hc.get hy
    refine ⟨u, ?_, VR.mono hle _ _ hur⟩
    simp [Cx.put, hu]
theorem Good.blkZ {S : Sem Value} {x : Value} {v : AV} {cells : List AV} {vs : List Value} {e : TypeId} (hr : Rel c h) (hd : ¬ c.D id) (hid : id < h.nx) (hc : VRL c cells vs)
    (hs : S.run P c.w = .ok x (c.w.alloc (.cells vs.toArray e))) (hv : c.le (c.put (c.w.alloc (.cells vs.toArray e)) id) → VR (c.put (c.w.alloc (.cells vs.toArray e)) id) v x) : Good P c h id S (v, some (blkZ e cells)) := by
  unfold Go.Vk.blkZ
  split
  · split
    · exact Good.trow hr hd hid hc hs hv
    · exact Good.row hr hd hid hc hs hv
  · exact Good.row hr hd hid hc hs hv
theorem alloc_good {t : TypeId} {z : List AV} (hr : Rel c h) (hd : ¬ c.D id) (hid : id < h.nx) (hz : zeroT P t = some z) : Good P c h id (Instr.alloc t true (.tuple #[])) (.ptr id 0, some (blkZ t z)) := by
  obtain ⟨v, rfl, hv⟩ := r_zero (w := c.w) hz
  have hc := absC_cells c v
  have hs : (Instr.alloc t true (.tuple #[])).run P c.w = .ok (.pointer (some ⟨c.w.heap.size, 0, none⟩)) (c.w.alloc (.cells v.cells.toList.toArray t)) := by simp [Instr.alloc, hv, newVar, r_newRow]
  exact Good.blkZ hr hd hid hc hs (fun hle => by simp [VR, put_rho, put_d])
theorem box_good {t : TypeId} {x : AV} {v : Value} (hr : Rel c h) (hd : ¬ c.D id) (hid : id < h.nx) (hv : VR c x v) (hx : x = .undef → False) : Good P c h id (Instr.box t v) (.ptr id 0, some (blkZ t x.cells)) := by
  refine Good.blkZ (x := .pointer (some ⟨c.w.heap.size, 0, none⟩)) (vs := v.cells.toList) (e := t) hr hd hid (hv.cells hx) ?_ (fun hle => ?_)
  · simp [Instr.box, newVar, r_newRow]
  · simp [VR, put_rho, put_d]

/-! ### loading -/
theorem cells_load {b off n : Nat} {cs : List AV} (hr : Rel c h) (hg : getCells h b off n = some cs) :
    ∃ vs : List Value, VRL c cs vs ∧ vs.length = n ∧ (∀ j v, vs[j]? = some v → c.w.cell? ⟨(c.rho b).1, (c.rho b).2 + off + j, none⟩ = some v) := by
  obtain ⟨vs, h1, all, e, fr, h2, h3⟩ := getCells_vals hr hg
  exact ⟨vs, h1, by rw [h1.length, getCells_length hg], fun j v hv => by rw [cell?_row h2]; exact h3 j v hv⟩

theorem cellsT_load {b off n : Nat} {cs : List AV} (hr : Rel c h) (hg : getT h b off n = some cs) :
    ∃ vs : List Value, VRL c cs vs ∧ vs.length = n ∧ (∀ j v, vs[j]? = some v → c.w.cell? ⟨(c.rho b).1, (c.rho b).2 + off + j, none⟩ = some v) := by
  obtain ⟨vs, h1, all, e, fr, h2, h3⟩ := getT_vals hr hg
  exact ⟨vs, h1, by rw [h1.length, getT_length hg], fun j v hv => by rw [cell?_row h2]; exact h3 j v hv⟩
theorem loadVar_of {t : TypeId} {b off : Nat} {cs : List AV} {v : AV} (ht : hasT P t = true)
    (hc : ∃ vs : List Value, VRL c cs vs ∧ vs.length = (if aggT P t then sizeT P t else 1) ∧ (∀ j v, vs[j]? = some v → c.w.cell? ⟨(c.rho b).1, (c.rho b).2 + off + j, none⟩ = some v)) (hp : packT P t cs = some v) :
    ∃ x, (loadVar t ⟨(c.rho b).1, (c.rho b).2 + off, none⟩).run P c.w = .ok x c.w ∧ VR c v x := by
  obtain ⟨vs, h1, h2, h3⟩ := hc
  unfold packT at hp
  by_cases ha : aggT P t = true
  · obtain ⟨d, hd⟩ := under_of_has ha
    simp only [ha, if_true] at hp h2
    injection hp with hp; subst hp
    refine ⟨.agg vs.toArray, ?_, by simp only [VR]; exact ⟨vs.toArray, rfl, h1⟩⟩
    have hl := run_loadCells_list (P := P) c.w ⟨(c.rho b).1, (c.rho b).2 + off, none⟩ vs (fun j u hu => by rw [add_plain]; exact h3 j u hu)
    rw [h2] at hl
    simp only [loadVar, Sem.run_bind, r_agg hd, Result.andThen_ok, ha, if_true, r_size' ht, hl, Sem.run_pure]
  · have ha' : aggT P t = false := by simpa using ha
    simp only [ha', Bool.false_eq_true, if_false] at hp h2
    split at hp
    · rename_i u
      injection hp with hp; subst hp
      obtain ⟨x, hx, hxr⟩ := h1.get (i := 0) (x := u) (by simp)
      refine ⟨x, ?_, hxr⟩
      have hc := h3 0 x hx
      obtain ⟨d, hd⟩ := under_of_hasT ht
      simp only [loadVar, Sem.run_bind, r_agg hd, Result.andThen_ok, ha', Bool.false_eq_true, if_false, run_load, Nat.add_zero] at hc ⊢
      rw [hc]
    · cases hp
theorem loadVar_ok {t : TypeId} {b off : Nat} {cs : List AV} {v : AV} (hr : Rel c h) (ht : hasT P t = true) (hg : getCells h b off (if aggT P t then sizeT P t else 1) = some cs) (hp : packT P t cs = some v) :
    ∃ x, (loadVar t ⟨(c.rho b).1, (c.rho b).2 + off, none⟩).run P c.w = .ok x c.w ∧ VR c v x := loadVar_of ht (cells_load hr hg) hp
theorem loadVarT_ok {t : TypeId} {b off : Nat} {cs : List AV} {v : AV} (hr : Rel c h) (ht : hasT P t = true) (hg : getT h b off (if aggT P t then sizeT P t else 1) = some cs) (hp : packT P t cs = some v) :
    ∃ x, (loadVar t ⟨(c.rho b).1, (c.rho b).2 + off, none⟩).run P c.w = .ok x c.w ∧ VR c v x := loadVar_of ht (cellsT_load hr hg) hp
end
end Go.Vk
