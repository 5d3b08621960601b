/- The data of the program in plain Lean: frames, tables, machines, kernels, and what each function answers. -/
import Derived.Test.YtkcoehkfhffjkaaSmall
namespace Go.Proofs.Ytkcoehkfhffjkaa

/-- The cells of the frames, and whether each is used. -/
structure FrD where
  cells : List (List Int)
  used : List Bool
abbrev TbD := List (Int × Int)
structure MaD where
  fr : FrD
  tb : TbD
structure KeD where
  ma : MaD
  calls : Int
  refuse : List Int

def zrow : List Int := List.replicate 16 0
def cellOkB (u : Bool) (v : Int) : Bool := btw v 0 999 && (u || v == 0)
def rowOkB (u : Bool) (c : List Int) : Bool := c.length == 16 && c.all (cellOkB u)
def frRows (f : FrD) : Bool := (List.range f.cells.length).all fun i => rowOkB (f.used.getD i false) (f.cells.getD i [])
def framesOkB (f : FrD) : Bool := btw f.cells.length 1 32 && (f.used.length == f.cells.length) && frRows f
def freeN (us : List Bool) : Nat := us.findIdx (fun u => !u)
def freeI (us : List Bool) : Int := if freeN us < us.length then freeN us else -1
def isB (f : FrD) (i : Int) : Bool := framesOkB f && btw i 0 ((f.used.length : Int) - 1) && f.used.getD i.toNat false
def framesNewD (n : Int) : FrD := if btw n 1 32 then ⟨List.replicate n.toNat zrow, List.replicate n.toNat false⟩ else ⟨[], []⟩
def takeOk (f : FrD) : Bool := framesOkB f && decide (freeN f.used < f.used.length)
def takeD (f : FrD) : FrD := if takeOk f then ⟨f.cells, f.used.set (freeN f.used) true⟩ else f
def takeI (f : FrD) : Int := if takeOk f then freeN f.used else -1
def giveD (f : FrD) (i : Int) : FrD := if isB f i then ⟨f.cells.set i.toNat zrow, f.used.set i.toNat false⟩ else f
def readOk (f : FrD) (i k : Int) : Bool := isB f i && btw k 0 15
def readD (f : FrD) (i k : Int) : Int := if readOk f i k then (f.cells.getD i.toNat []).getD k.toNat 0 else 0
def writeOk (f : FrD) (i k v : Int) : Bool := isB f i && btw k 0 15 && btw v 0 999
def writeD (f : FrD) (i k v : Int) : FrD := if writeOk f i k v then ⟨f.cells.set i.toNat ((f.cells.getD i.toNat []).set k.toNat v), f.used⟩ else f
def usedD (f : FrD) : Int := if framesOkB f then (f.used.filter id).length else 0

def entOkB (n : Int) (e : Int × Int) : Bool := btw e.1 0 2 && (if e.1 = 0 then e.2 == 0 else btw e.2 0 (n - 1))
def tableOkB (t : TbD) (n : Int) : Bool := t.all (entOkB n) && btw t.length 1 32
def setOk (t : TbD) (p : Int) (e : Int × Int) : Bool := btw p 0 ((t.length : Int) - 1) && btw e.1 0 2 && decide (0 ≤ e.2) && (if e.1 = 0 then e.2 == 0 else true)
def setD (t : TbD) (p : Int) (e : Int × Int) : TbD := if setOk t p e then t.set p.toNat e else t
def entryD (t : TbD) (p : Int) : Int × Int := if btw p 0 ((t.length : Int) - 1) then t.getD p.toNat (0, 0) else (0, 0)
def onB (f : Int) (e : Int × Int) : Bool := e.1 != 0 && e.2 == f
def onTo (t : TbD) (f : Int) : Nat → List Int
  | 0 => []
  | k + 1 => onTo t f k ++ if onB f (t.getD k (0, 0)) then [(k : Int)] else []
def onD (t : TbD) (f : Int) : List Int := onTo t f t.length
def mapTo (t : TbD) : Nat → Int
  | 0 => 0
  | k + 1 => mapTo t k + if (t.getD k (0, 0)).1 = 0 then 0 else 1
def mappedD (t : TbD) : Int := mapTo t t.length

def usedOkB (m : MaD) (i : Nat) : Bool := m.fr.used.getD i false == decide (0 < (onD m.tb i).length)
def machineOkB (m : MaD) : Bool := framesOkB m.fr && tableOkB m.tb m.fr.used.length && (List.range m.fr.used.length).all (usedOkB m)
def machineNewOk (p n : Int) : Bool := btw n 1 32 && btw p 1 32
def machineNewD (p n : Int) : MaD := if machineNewOk p n then ⟨framesNewD n, List.replicate p.toNat (0, 0)⟩ else ⟨⟨[], []⟩, []⟩
def entryAtD (m : MaD) (a : Int) : Int × Int := if decide (0 ≤ a) && machineOkB m then entryD m.tb (a / 16) else (0, 0)
def loadC (m : MaD) (a : Int) : Int := if (entryAtD m a).1 = 0 then 1 else 0
def loadD (m : MaD) (a : Int) : Int := if (entryAtD m a).1 = 0 then 0 else (m.fr.cells.getD (entryAtD m a).2.toNat []).getD (a % 16).toNat 0
def storeC (m : MaD) (a v : Int) : Int := if (entryAtD m a).1 = 0 then 1 else if (entryAtD m a).1 = 1 then 2 else if btw v 0 999 then 0 else 3
def storeD (m : MaD) (a v : Int) : MaD := if storeC m a v = 0 then ⟨⟨m.fr.cells.set (entryAtD m a).2.toNat ((m.fr.cells.getD (entryAtD m a).2.toNat []).set (a % 16).toNat v), m.fr.used⟩, m.tb⟩ else m
def pageTextD (m : MaD) (p : Int) : List Int := if machineOkB m && (entryD m.tb p).1 != 0 then m.fr.cells.getD (entryD m.tb p).2.toNat [] else []

def kernelOkB (k : KeD) : Bool := k.refuse.all (fun n => decide (0 ≤ n)) && btw k.calls 0 100000 && decide (k.refuse.length ≤ 40) && machineOkB k.ma

/-! ## Marks -/
def markRows (k : Int) : List (List Int) → List (List Int)
  | [] => []
  | r :: rs => ((List.range r.length).map fun j : Nat => k + (j : Int)) :: markRows (k + r.length) rs
def cntRows : List (List Int) → Nat
  | [] => 0
  | r :: rs => r.length + cntRows rs
def markBools (k : Int) (n : Nat) : List Bool := (List.range n).map fun j : Nat => decide ((k + (j : Int)) % 3 = 0)
def markEnts (k : Int) (n : Nat) : List (Int × Int) := (List.range n).map fun j : Nat => (k + 2 * (j : Int), k + 2 * (j : Int) + 1)
end Go.Proofs.Ytkcoehkfhffjkaa
