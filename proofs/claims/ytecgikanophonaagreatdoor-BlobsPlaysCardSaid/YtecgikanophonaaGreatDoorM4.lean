/- Texts of the seat, one behind the other: Hdr, Small. -/
import Derived.Test.YtecgikanophonaaGreatDoorM1
import Derived.Lib.IndexAny
import Derived.Test.YtecgikanophonaaGreatDoorProg
import Derived.WalkSpells
import Derived.WalkLawsBesides
set_option maxRecDepth 100000
set_option maxHeartbeats 25600000
/- Plain: a header's fields as data, and as a value. -/
namespace Go.Proofs.YtecgikanophonaaGreatDoor
open Go.RowKit
end Go.Proofs.YtecgikanophonaaGreatDoor
/- Contracts of small functions: what each returns, in whatever world. -/
namespace Go.Proofs.YtecgikanophonaaGreatDoor
open Go.RowKit
def errV (n:Int):Value:=.iface 76 (.int .i64 n)
def pick (k n:Int):Int:=if k.tmod n < 0 then k.tmod n+n else k.tmod n
theorem pick_any (k n:Int) (w:World) (h0:1≤n) (h1:n≤9223372036854775807) (_h2:-9223372036854775808≤k) (_h3:k≤9223372036854775807) :
  Calls Tryz.prog 7 #[.int .i64 k,.int .i64 n] w fun e w'=>e=.returned (.int .i64 (pick k n))∧w=w':=by
 go_enter Tryz.func7,Tryz.ntmps7
 go_wp2
 all_goals go_ret
 ·have h4:=Int.lt_tmod_of_pos k (show 0 < n by omega)
  have h5:=Int.tmod_lt_of_pos k (show 0 < n by omega)
  exact ⟨ret_int (by rw [pick,if_pos ‹_›];exact IntWalk.wrap64_in _ ⟨by omega,by omega⟩),rfl⟩
 ·exact ⟨ret_int (by rw [pick,if_neg (by omega)]),rfl⟩
theorem pick_bd (k n:Int) (h:1≤n):0≤pick k n∧pick k n < n:=by
 have h4:=Int.lt_tmod_of_pos k (show 0 < n by omega)
 have h5:=Int.tmod_lt_of_pos k (show 0 < n by omega)
 unfold pick;split <;> omega
end Go.Proofs.YtecgikanophonaaGreatDoor
