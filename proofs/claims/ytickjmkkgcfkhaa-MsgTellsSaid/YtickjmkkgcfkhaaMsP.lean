/- The message, plain: its bytes, the message of bytes. No program is in sight. -/
import Derived.Test.YtickjmkkgcfkhaaRecJ
import Derived.Test.YtickjmkkgcfkhaaMsP0
set_option linter.unusedSimpArgs false
set_option linter.unusedVariables false
set_option maxRecDepth 100000
namespace Go.Proofs.Ytickjmkkgcfkhaa

def Ms.lay (m : Ms) : List UInt8 :=
  if m.kd = 1 then m.rc.enc else if m.kd = 2 then m.st.enc else if m.kd = 3 then m.hd.enc.data.toList
  else if m.kd = 4 then nb m.dst.toNat 1 ++ nb m.hops.toNat 1 ++ nb m.wi.frm.toNat 1 ++ nb m.wi.ep 4 ++ nb m.wi.ver 4 ++ nb m.wi.grp 1
  else nb m.dst.toNat 1 ++ nb m.hops.toNat 1 ++ nb m.ak.frm.toNat 1 ++ nb m.ak.ep 4 ++ nb m.ak.dst.toNat 1 ++ nb m.ak.lif 4 ++ nb m.ak.ver 4
def Ms.body (m : Ms) : List UInt8 := toU8 m.kd.toNat :: m.lay
def Ms.enc (m : Ms) : ByteArray := sealB (bs m.body)
def Ms.encS (m : Ms) : ByteArray := if m.chk then m.enc else bs []

/-! ### the message of bytes -/
/-- What the parts of bytes are, by kind: 'read' of a kind's row. -/
def Ms.got (k : Int) (l : List UInt8) : Ms :=
  if k = 1 then { Ms.zero with kd := k, rc := decR l } else if k = 2 then { Ms.zero with kd := k, st := decS l } else if k = 3 then { Ms.zero with kd := k, hd := decH (bs l) }
  else if k = 4 then { Ms.zero with kd := k, dst := (seg l 0 1 : Nat), hops := (seg l 1 1 : Nat), wi := ⟨(seg l 2 1 : Nat), seg l 3 4, seg l 7 4, seg l 11 1⟩ }
  else { Ms.zero with kd := k, dst := (seg l 0 1 : Nat), hops := (seg l 1 1 : Nat), ak := ⟨(seg l 2 1 : Nat), seg l 3 4, (seg l 7 1 : Nat), seg l 8 4, seg l 12 4⟩ }
def redOk (k : Int) (l : List UInt8) : Bool :=
  if k = 1 then decide (decE l = 0) else if k = 2 then decide (decSE l = 0) else if k = 3 then decide (decHE (bs l) = 0) else if k = 4 then decide (l.length = 12) else decide (l.length = 16)
def kindOf (l : List UInt8) : Int := ((l.headD 0).toNat : Int)
/-- Are opened bytes a message's? -/
def bodyOk (l : List UInt8) : Bool := decide (1 ≤ kindOf l) && decide (kindOf l ≤ 5) && redOk (kindOf l) l.tail && (Ms.got (kindOf l) l.tail).chk
def decME (s : ByteArray) : Int := if 512 < s.size then 3 else if s.size < 3 then 4 else if openE s = 0 then (if bodyOk (openS s).data.toList then 0 else 4) else openE s
def decM (s : ByteArray) : Ms := if decME s = 0 then Ms.got (kindOf (openS s).data.toList) (openS s).data.toList.tail else Ms.zero

end Go.Proofs.Ytickjmkkgcfkhaa
