/- The engine, part 26: small helpers of the printed texts. -/
import Derived.Test.YtccelbeahdcooaaE25
namespace Go.Proofs.Ytccelbeahdcooaa.Eng
open Go Go.RowKit

def iand (k:IntKind) (a b:Int):Int:=k.wrap (BitVec.ofInt k.bits a &&& BitVec.ofInt k.bits b).toNat
def ior (k:IntKind) (a b:Int):Int:=k.wrap (BitVec.ofInt k.bits a ||| BitVec.ofInt k.bits b).toNat
def ixor (k:IntKind) (a b:Int):Int:=k.wrap (BitVec.ofInt k.bits a ^^^ BitVec.ofInt k.bits b).toNat

theorem cnd {α β:Type} {F:α→Option β} {c:Bool} {X Y:Option β} {a b:α} (hx:c=true→X=F a) (hy:c=false→Y=F b):cond c X Y=F (cond c a b):=by
 cases c with
 | true=>exact hx rfl
 | false=>exact hy rfl
theorem cndT {β:Type} {c:Bool} {X Y:Option β} {a:Option β} (hc:c=true) (hx:c=true→X=a):cond c X Y=a:=by
 subst hc;exact hx rfl
end Go.Proofs.Ytccelbeahdcooaa.Eng
