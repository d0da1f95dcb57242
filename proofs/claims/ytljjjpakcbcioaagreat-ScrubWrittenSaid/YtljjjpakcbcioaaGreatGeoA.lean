/- Geometries: whether it is one; its rows. -/
import Derived.Test.YtljjjpakcbcioaaGreatMrg1
import Derived.Deep.RegionWith
set_option linter.unusedVariables false
set_option maxRecDepth 100000
set_option maxHeartbeats 2000000
namespace Go.Proofs.YtljjjpakcbcioaaGreat
open Go.RowKit
def geo (m c s:Int):Value:=.agg #[.int .i64 m,.int .i64 c,.int .i64 s]
def shp (m c s d:Int):Value:=.agg #[.int .i64 m,.int .i64 c,.int .i64 s,.int .i64 d]
def geoIs (m c s:Int):Bool:=decide (3≤m/\m≤16)&&(decide (1≤c/\c≤16)&&decide (1≤s/\s≤256))
def geoCode (m c s:Int):Int:=if geoIs m c s then 0 else 60
theorem geoIs_iff (m c s:Int):geoIs m c s=true↔3≤m/\m≤16/\1≤c/\c≤16/\1≤s/\s≤256:=by
 unfold geoIs;simp only [Bool.and_eq_true,decide_eq_true_eq];omega
theorem in_do (n lo hi:Int) (w:World):Calls Tryz.prog 119 #[.int .i64 n,.int .i64 lo,.int .i64 hi] w fun e w'=>e=.returned (.bool (decide (lo≤n/\n≤hi)))/\w'=w:=by
 by_cases h1:lo≤n
 ·by_cases h2:n≤hi
  ·rw[decide_eq_true (show lo≤n/\n≤hi from ⟨h1,h2⟩)]
   go_enter Tryz.func119,Tryz.ntmps119;go_wp2;go_ret;exact⟨rfl,rfl⟩
  ·rw[decide_eq_false (show ¬(lo≤n/\n≤hi)from fun h=>h2 h.2)]
   have h2':hi<n:=by omega
   clear h2;go_enter Tryz.func119,Tryz.ntmps119;go_wp2;go_ret;exact⟨by show Ending.returned (.bool (decide (n≤hi)))=_;rw[decide_eq_false (by omega)],rfl⟩
 ·rw[decide_eq_false (show ¬(lo≤n/\n≤hi)from fun h=>h1 h.1)]
  have h1':n<lo:=by omega
  clear h1;go_enter Tryz.func119,Tryz.ntmps119;go_wp2;go_ret;exact⟨rfl,rfl⟩
theorem geom_check (m c s:Int) (w:World):Calls Tryz.prog 64 #[geo m c s] w fun e w'=>e=.returned (.int .u16 (geoCode m c s))/\Below w.heap.size w w':=by
 have k1:=Lib.hid (fun W=>in_do m 3 16 W);have k2:=Lib.hid (fun W=>in_do c 1 16 W);have k3:=Lib.hid (fun W=>in_do s 1 256 W);unfold geoCode geoIs geo;generalize decide (3≤m/\m≤16)=q1 at*;generalize decide (1≤c/\c≤16)=q2 at*;generalize decide (1≤s/\s≤256)=q3 at*;have hb:Below w.heap.size w (w.alloc (.cells #[.int .i64 m,.int .i64 c,.int .i64 s] 23)):=(Below.refl _ _).alloc (Nat.le_refl _) _;cases q1<;>cases q2<;>cases q3
 all_goals
  simp only [Bool.and_true,Bool.and_false,if_true,if_false,Bool.false_eq_true]
  go_enter Tryz.func64,Tryz.ntmps64
  go_wp2_with (first
   |(go_at_call 119;(with_reducible refine(k1.out _).mono ?_);rintro e w1 ⟨rfl,rfl⟩)
   |(go_at_call 119;(with_reducible refine(k2.out _).mono ?_);rintro e w1 ⟨rfl,rfl⟩)
   |(go_at_call 119;(with_reducible refine(k3.out _).mono ?_);rintro e w1 ⟨rfl,rfl⟩))
  go_ret
  exact⟨rfl,hb⟩
end Go.Proofs.YtljjjpakcbcioaaGreat
