/- RowsSettled, told of its arguments (printed by gen_rlend.py). -/
import Derived.Test.YtebmephdnjccjaaGreatRlJ
set_option linter.unusedVariables false
set_option maxRecDepth 100000
set_option maxHeartbeats 1000000
namespace Go.Proofs.YtebmephdnjccjaaGreat
open Go.RowKit Go.ChangeShapes Go.WideShapes Go.ChangeAt Go.Deep
theorem rowsSettled_walk {H:Type} (w:World) (enc:TypeId×Value->H) (base:Nat) (v:Value) (d:DataW H) (ps:List MemPlace) (hok:Value.okWide Tryz.prog w .any base 25 v) (h:DataW.Trod enc Tryz.prog w 0 (fun _=>true) true 25 v d ps)
  (a:Int) (_:(Lit.int .i64 a).wf=true)
  (enc':TypeId×Value->H) (base':Nat) (v':Value) (d':DataW H) (ps':List MemPlace) (hok':Value.okWide Tryz.prog w .any base' 26 v') (h':DataW.Trod enc' Tryz.prog w 0 (fun _=>true) true 26 v' d' ps') (hw':∀n∈d'.weights Tryz.prog 26,n≤reachBytes):
  Calls Tryz.prog 4 #[v,.int .i64 a,v'] w fun e w'=>e=.returned (.bool true)/\Below w.heap.size w w':=by
 obtain⟨m,c,s,ring,lazy,more,rfl⟩:=made_of_trod hok h;obtain⟨l,hv⟩:=rops_of_trod hok' h' hw';cases hm:mayIs m c s ring
 ·exact RowsSettled_no m c s ring lazy more a v' l w hv hm
 ·obtain⟨M,C,S,r,rfl,rfl,rfl,rfl,hg,h5,h6⟩:=may_nat hm
  exact RowsSettled_go M C S r lazy more a v' l w hv hg h5 h6
end Go.Proofs.YtebmephdnjccjaaGreat
