/- Contracts of turn, the program's and the reference's. -/
import Derived.Test.YtecgikanophonaaGreatDoorM1
import Derived.Test.YtecgikanophonaaGreatDoorWorld
import Derived.Deep.QuietTactic
import Derived.BigQuiet
import Derived.Test.YtecgikanophonaaGreatDoorProg
import Derived.Lib.Hide
set_option maxRecDepth 100000
set_option maxHeartbeats 25600000
namespace Go.Proofs.YtecgikanophonaaGreatDoor
open Go Go.RowKit
def rotr (x:Int) (n:Nat):Int:=bits .or .u32 (x / 2 ^ n) (x * 2 ^ (32 - n) % 4294967296)
theorem turn_any (x:Int) (n:Nat) (hn:(n:Int)≤32) (w:World):Calls Tryz.prog 155 #[.int .u32 x,.int .i64 n] w fun e w'=>e=.returned (.int .u32 (rotr x n))∧∃ q,w'=w.drewN q:=by
 go_enter Tryz.func155,Tryz.ntmps155
 go_wp2_with fail
 go_quiet (fail)
 rename_i nq
 go_wp2_with fail
 go_ret
 exact ⟨rfl,nq,rfl⟩
theorem refTurn_any (x:Int) (n:Nat) (hn:(n:Int)≤32) (w:World):Calls Tryz.prog 96 #[.int .u32 x,.int .i64 n] w fun e w'=>e=.returned (.int .u32 (rotr x n))∧∃ q,w'=w.drewN q:=by
 go_enter Tryz.func96,Tryz.ntmps96
 go_wp2_with fail
 go_quiet (fail)
 rename_i nq
 go_wp2_with fail
 go_ret
 exact ⟨rfl,nq,rfl⟩
end Go.Proofs.YtecgikanophonaaGreatDoor
