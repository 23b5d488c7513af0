/-
  The parts of a date walked: the program's and the reference's. No condition.
-/
import Derived.Test.YtkobkpepgdddeaaGreatDoorZah
import Derived.Test.YtkobkpepgdddeaaGreatDoorZaa
import Derived.Laws.Rows
import Derived.Test.YtkobkpepgdddeaaGreatDoorZae
import Derived.Test.YtkobkpepgdddeaaGreatDoorZag
import Derived.RegionTactic
namespace Go.Proofs.YtkobkpepgdddeaaGreatDoor
open Go.RowKit
set_option maxHeartbeats 16000000
set_option maxRecDepth 100000
def inB(n a b:Int):Bool:=decide (a≤n) && decide (n≤b)
def zhj(y:Nat):Array Value:=#[.int .i64 0,.int .i64 31,.int .i64 (zcu y 2:Int),.int .i64 31,.int .i64 30,.int .i64 31,.int .i64 30,.int .i64 31,.int .i64 31,.int .i64 30,.int .i64 31,.int .i64 30,.int .i64 31]
theorem zng(y m:Nat)(h1:1≤m)(h2:m≤12):(zhj y)[m]?=some (.int .i64 (zcu y m:Int)):=by
 have hm:m=1∨m=2∨m=3∨m=4∨m=5∨m=6∨m=7∨m=8∨m=9∨m=10∨m=11∨m=12:=by omega
 rcases hm with rfl |rfl |rfl |rfl |rfl |rfl |rfl |rfl |rfl |rfl |rfl |rfl<;>rfl
theorem zgk(y:Nat)(w:World)(hy:y≤10000):Calls Tryz.prog 209 #[.int .i64 (y:Int)] w fun e w'=>e=.returned (.agg (zhj y))∧Below w.heap.size w w':=by
 have HL:=Z9 (fun W=>zzq y W hy);unfold zhj;rw[zwf];obtain⟨b,hb⟩:∃b,b=zfp y:=⟨_,rfl⟩
 rw[←hb]at HL ⊢;clear hb
 cases b
 ·go_enter Tryz.func209,Tryz.ntmps209
  go_wp2_with fail;refine(HL.out _).mono ?_;rintro e w' ⟨rfl,rfl⟩;go_wp2;refine bodyPost_ret (results_cell_row rfl _ _ w.heap.size 219 _ (0,0) _ rfl (zls _ _ _) Tryz.underlying219 rfl rfl) rfl ?_;exact⟨rfl,(zaf _ _).trans ((zaf _ _).mono (by simp))⟩
 ·go_enter Tryz.func209,Tryz.ntmps209
  go_wp2_with fail;refine(HL.out _).mono ?_;rintro e w' ⟨rfl,rfl⟩;go_wp2;refine bodyPost_ret (results_cell_row rfl _ _ w.heap.size 219 _ (0,0) _ rfl (zls _ _ _) Tryz.underlying219 rfl rfl) rfl ?_;exact⟨rfl,(zaf _ _).trans ((zaf _ _).mono (by simp))⟩
theorem zwp(n a b:Int)(w:World):Calls Tryz.prog 218 #[.int .i64 n,.int .i64 a,.int .i64 b] w (RetB w (inB n a b)):=by
 unfold inB
 cases h1:decide (a≤n)<;>cases h2:decide (n≤b)
 all_goals
  go_enter Tryz.func218,Tryz.ntmps218;go_wp2;go_ret;exact⟨rfl,rfl⟩
theorem zyz(n:Int)(w:World):Calls Tryz.prog 196 #[.int .i64 n] w (RetB w (inB n 0 99999)):=by
 have H:=Z9 (fun W=>zwp n 0 99999 W);go_enter Tryz.func196,Tryz.ntmps196;go_wp2_with fail;refine(H.out _).mono ?_;rintro e w' ⟨rfl,rfl⟩;go_wp2;go_ret;exact⟨rfl,rfl⟩
theorem zvj{n:Int}{b:Bool}(h:inB n 0 99999=b):Hid (∀W,Calls Tryz.prog 196 #[.int .i64 n] W (RetB W b)):=fun W=>h ▸ zyz n W
theorem zra(y m n:Nat)(hy:y≤10000)(h1:1≤m)(h2:m≤12)(hn:n=zcu y m):Hid (∀W,Calls Tryz.prog 197 #[.int .i64 (y:Int),.int .i64 (m:Int)] W (RetI W (n:Int))):=fun W=>hn ▸ znc y m W hy h1 h2
structure Tk where
 kind:Int
 text:ByteArray
 rat:ByteArray
 date:Int
 place:Int
instance:Inhabited Tk:=⟨⟨0,ByteArray.empty,ByteArray.empty,0,0⟩⟩
end Go.Proofs.YtkobkpepgdddeaaGreatDoor
