import Derived.Test.YtickjmkkgcfkhaaGreatRecC
import Derived.Test.YtickjmkkgcfkhaaGreatHdP
import Derived.Test.YtickjmkkgcfkhaaGreatRecJ
/- The message, plain: what may be. No program is in sight. -/
set_option linter.unusedSimpArgs false
set_option linter.unusedVariables false
set_option maxRecDepth 100000
namespace Go.Proofs.YtickjmkkgcfkhaaGreat

structure Wi where
  frm : Int
  ep : Nat
  ver : Nat
  grp : Nat
deriving DecidableEq, Inhabited
structure Ak where
  frm : Int
  ep : Nat
  dst : Int
  lif : Nat
  ver : Nat
deriving DecidableEq, Inhabited
def Wi.zero : Wi := ⟨0, 0, 0, 0⟩
def Ak.zero : Ak := ⟨0, 0, 0, 0, 0⟩
def Wi.ok (w : Wi) : Prop := I64 w.frm ∧ w.ep < 4294967296 ∧ w.ver < 4294967296 ∧ w.grp < 256
def Ak.ok (a : Ak) : Prop := I64 a.frm ∧ a.ep < 4294967296 ∧ I64 a.dst ∧ a.lif < 4294967296 ∧ a.ver < 4294967296
def Wi.may (w : Wi) : Bool := rtr w.frm && decide (0 < w.ep) && decide (0 < w.ver)
def Ak.may (a : Ak) : Bool := rtr a.frm && rtr a.dst && decide (0 < a.ep) && decide (0 < a.lif) && decide (0 < a.ver)
/-- A message. -/
structure Ms where
  kd : Int
  rc : Rc
  st : St
  hd : Hd
  dst : Int
  hops : Int
  wi : Wi
  ak : Ak
deriving Inhabited
def Ms.zero : Ms := ⟨0, Rc.zero, (⟨0, 0, 0⟩ : St), Hd.zero, 0, 0, Wi.zero, Ak.zero⟩
def Ms.ok (m : Ms) : Prop := I64 m.kd ∧ m.rc.ok ∧ m.st.ok ∧ m.hd.ok ∧ I64 m.dst ∧ I64 m.hops ∧ m.wi.ok ∧ m.ak.ok
/-- Is a record a zero one? -/
def Rc.nul (r : Rc) : Bool := (r.org == 0) && (r.ep == 0) && (r.sq == 0) && (r.clm == 0) && !r.ing && (r.adjs.length == 0)
def Ms.zr (m : Ms) : Bool := m.rc.nul
def Ms.zs (m : Ms) : Bool := decide (m.st = (⟨0, 0, 0⟩ : St))
def Ms.zh (m : Ms) : Bool := decide (m.hd = Hd.zero)
def Ms.zy (m : Ms) : Bool := (m.dst == 0) && (m.hops == 0)
def Ms.zw (m : Ms) : Bool := decide (m.wi = Wi.zero)
def Ms.za (m : Ms) : Bool := decide (m.ak = Ak.zero)
/-- A bit, if something is there. -/
def bt (z : Bool) (k : Nat) : Nat := if z then 0 else k
/-- Which parts are not zero. -/
def Ms.tn (m : Ms) : Nat := bt m.zr 1 + bt m.zs 2 + bt m.zh 4 + bt m.zy 8 + bt m.zw 16 + bt m.za 32
/-- A kind's parts. -/
def prt (k : Int) : Nat := if k = 1 then 1 else if k = 2 then 2 else if k = 3 then 4 else if k = 4 then 24 else 40
def Ms.way (m : Ms) : Bool := rtr m.dst && decide (0 ≤ m.hops) && decide (m.hops ≤ 24)
/-- Nothing is there that the kind does not name. -/
def Ms.fit (m : Ms) : Bool :=
  if m.kd = 1 then m.zs && m.zh && m.zy && m.zw && m.za else if m.kd = 2 then m.zr && m.zh && m.zy && m.zw && m.za else if m.kd = 3 then m.zr && m.zs && m.zy && m.zw && m.za
  else if m.kd = 4 then m.zr && m.zs && m.zh && m.za else m.zr && m.zs && m.zh && m.zw
def Ms.may (m : Ms) : Bool :=
  if m.kd = 1 then m.rc.chk else if m.kd = 2 then m.st.may else if m.kd = 3 then m.hd.chk else if m.kd = 4 then m.way && m.wi.may else m.way && m.ak.may
def Ms.isk (m : Ms) : Bool := decide (1 ≤ m.kd) && decide (m.kd ≤ 5)
def Ms.chk (m : Ms) : Bool := m.isk && m.fit && m.may
def Ms.err (m : Ms) : Int := if m.chk then 0 else 2
theorem bits_fit (z1 z2 z3 z4 z5 z6 : Bool) :
    (bits BinOp.andNot .i64 ((bt z1 1 + bt z2 2 + bt z3 4 + bt z4 8 + bt z5 16 + bt z6 32 : Nat) : Int) 1 == 0) = (z2 && z3 && z4 && z5 && z6) ∧
    (bits BinOp.andNot .i64 ((bt z1 1 + bt z2 2 + bt z3 4 + bt z4 8 + bt z5 16 + bt z6 32 : Nat) : Int) 2 == 0) = (z1 && z3 && z4 && z5 && z6) ∧
    (bits BinOp.andNot .i64 ((bt z1 1 + bt z2 2 + bt z3 4 + bt z4 8 + bt z5 16 + bt z6 32 : Nat) : Int) 4 == 0) = (z1 && z2 && z4 && z5 && z6) ∧
    (bits BinOp.andNot .i64 ((bt z1 1 + bt z2 2 + bt z3 4 + bt z4 8 + bt z5 16 + bt z6 32 : Nat) : Int) 24 == 0) = (z1 && z2 && z3 && z6) ∧
    (bits BinOp.andNot .i64 ((bt z1 1 + bt z2 2 + bt z3 4 + bt z4 8 + bt z5 16 + bt z6 32 : Nat) : Int) 40 == 0) = (z1 && z2 && z3 && z5) := by
  revert z1 z2 z3 z4 z5 z6
  decide

end Go.Proofs.YtickjmkkgcfkhaaGreat

/- The message, plain: its bytes, the message of bytes. No program is in sight. -/
set_option linter.unusedSimpArgs false
set_option linter.unusedVariables false
set_option maxRecDepth 100000
namespace Go.Proofs.YtickjmkkgcfkhaaGreat

def Ms.lay (m : Ms) : List UInt8 :=
  if m.kd = 1 then m.rc.enc else if m.kd = 2 then m.st.enc else if m.kd = 3 then m.hd.enc.data.toList
  else if m.kd = 4 then nb m.dst.toNat 1 ++ nb m.hops.toNat 1 ++ nb m.wi.frm.toNat 1 ++ nb m.wi.ep 4 ++ nb m.wi.ver 4 ++ nb m.wi.grp 1
  else nb m.dst.toNat 1 ++ nb m.hops.toNat 1 ++ nb m.ak.frm.toNat 1 ++ nb m.ak.ep 4 ++ nb m.ak.dst.toNat 1 ++ nb m.ak.lif 4 ++ nb m.ak.ver 4
def Ms.body (m : Ms) : List UInt8 := toU8 m.kd.toNat :: m.lay
def Ms.enc (m : Ms) : ByteArray := sealB (bs m.body)
def Ms.encS (m : Ms) : ByteArray := if m.chk then m.enc else bs []

/-! ### the message of bytes -/
/-- What the parts of bytes are, by kind: 'read' of a kind's row. -/
def Ms.got (k : Int) (l : List UInt8) : Ms :=
  if k = 1 then { Ms.zero with kd := k, rc := decR l } else if k = 2 then { Ms.zero with kd := k, st := decS l } else if k = 3 then { Ms.zero with kd := k, hd := decH (bs l) }
  else if k = 4 then { Ms.zero with kd := k, dst := (seg l 0 1 : Nat), hops := (seg l 1 1 : Nat), wi := ⟨(seg l 2 1 : Nat), seg l 3 4, seg l 7 4, seg l 11 1⟩ }
  else { Ms.zero with kd := k, dst := (seg l 0 1 : Nat), hops := (seg l 1 1 : Nat), ak := ⟨(seg l 2 1 : Nat), seg l 3 4, (seg l 7 1 : Nat), seg l 8 4, seg l 12 4⟩ }
def redOk (k : Int) (l : List UInt8) : Bool :=
  if k = 1 then decide (decE l = 0) else if k = 2 then decide (decSE l = 0) else if k = 3 then decide (decHE (bs l) = 0) else if k = 4 then decide (l.length = 12) else decide (l.length = 16)
def kindOf (l : List UInt8) : Int := ((l.headD 0).toNat : Int)
/-- Are opened bytes a message's? -/
def bodyOk (l : List UInt8) : Bool := decide (1 ≤ kindOf l) && decide (kindOf l ≤ 5) && redOk (kindOf l) l.tail && (Ms.got (kindOf l) l.tail).chk
def decME (s : ByteArray) : Int := if 512 < s.size then 3 else if s.size < 3 then 4 else if openE s = 0 then (if bodyOk (openS s).data.toList then 0 else 4) else openE s
def decM (s : ByteArray) : Ms := if decME s = 0 then Ms.got (kindOf (openS s).data.toList) (openS s).data.toList.tail else Ms.zero

end Go.Proofs.YtickjmkkgcfkhaaGreat
