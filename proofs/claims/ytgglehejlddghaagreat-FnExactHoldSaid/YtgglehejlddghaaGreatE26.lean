/- The engine, part 26: small helpers of the printed texts. -/
import Derived.Test.YtgglehejlddghaaGreatE25
namespace Go.Proofs.YtgglehejlddghaaGreat.Eng
open Go Go.RowKit

theorem cnd {α β:Type} {F:α→Option β} {c:Bool} {X Y:Option β} {a b:α} (hx:c=true→X=F a) (hy:c=false→Y=F b):cond c X Y=F (cond c a b):=by
 cases c with
 | true=>exact hx rfl
 | false=>exact hy rfl
theorem A70 {β:Type} {c:Bool} {X Y:Option β} {a:Option β} (hc:c=true) (hx:c=true→X=a):cond c X Y=a:=by
 subst hc;exact hx rfl
end Go.Proofs.YtgglehejlddghaaGreat.Eng
