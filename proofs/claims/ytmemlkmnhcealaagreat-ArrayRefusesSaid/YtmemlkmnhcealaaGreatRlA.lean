
/- A script of the rows' laws, as an argument brings it (printed in part by gen_rla.py). -/
import Derived.Test.YtmemlkmnhcealaaGreatMrg31
set_option linter.unusedVariables false
set_option maxRecDepth 100000
set_option maxHeartbeats 1000000
namespace Go.Proofs.YtmemlkmnhcealaaGreat
open Go.RowKit Go.ChangeShapes Go.WideShapes Go.ChangeAt Go.Deep
variable {v:Value}
theorem Zi0{H:Type}{enc:TypeId×Value->H}{P:Program}{W:World}{T E EB fuel:Nat}{x0:DataW H×List MemPlace}{f0 f1:Field}
  (hT:P.underlying T=some (.slice E)) (hE:P.underlying E=some (.struct #[f0,f1])) (ce:P.cellsOf E=2) (be:0<P.bytesOf E) (o0:f0.offset=0) (o1:f1.offset=1) (c0:P.cellsOf f0.type=1) (c1:P.cellsOf f1.type=1)
  (t0:P.underlying f0.type=some (.int .i64)) (t1:P.underlying f1.type=some (.slice EB)) (tb:P.underlying EB=some (.int .u8)) (cb:P.cellsOf EB=1) (bb:P.bytesOf EB=1)
  (hf:DataW.trod enc P W 0 (fun _=>true) true fuel T [v]=some x0) (hw:∀n∈x0.1.weights P T,n≤reachBytes):∃us,PutSeg W v us:=by
 rcases Go.Deep.open_slice hT hf with ⟨hcs,_⟩|⟨x,len,cap,m,n,D,Pl,hcs,_,hl,hm,hmm,hd,hx⟩
 ·simp only [List.cons.injEq,and_true]at hcs
  subst hcs;exact⟨[],none,0,rfl,by simp,by simp,.inl rfl⟩
 ·simp only [List.cons.injEq,and_true]at hcs
  subst hcs;simp only [if_true]at hmm;subst hmm;subst hd;have hlenb:len≤140737488351232:=by
   have hmem:(((List.range len).map D).length+((List.range (m-len)).map fun j=>D (len+j)).length)*P.bytesOf E≤reachBytes:=by
    apply hw;simp only [DataW.weights,hT];exact List.mem_cons_self
   simp only [Zp,List.length_range,reachBytes]at hmem;have:=Nat.le_mul_of_pos_right (len+(m-len)) be;omega
  rw[ce]at hx;have each:∀i,i<len->∃z:Int×List UInt8,∃u,W.cell? (x.add (i*2))=some (.int .i64 z.1)/\W.cell? (x.add (i*2+1))=some u/\Seg W u z.2/\z.2.length≤140737488351232:=by
   intro i hi;obtain⟨cs',h1,h2⟩:=hx i (by omega);obtain⟨_,hlen,hcell⟩:=World.cells?_some h1;obtain⟨xs,k,hk,hxy,_,hxl,hfld⟩:=DataW.trod_struct hE h2;match xs,hxl,cs',hlen with
   | [y0,y1],_,[v0,v1],_=>
    have g0:=hfld 0 f0 rfl;have g1:=hfld 1 f1 rfl;simp[o0,o1,c0,c1]at g0 g1;have e0:=hcell 0 (by omega);have e1:=hcell 1 (by omega);rw[add_add]at e0 e1;obtain⟨z0,q0,_⟩:=DataW.trod_int t0 g0;have hDi:D i=.agg [y0.1,y1.1]:=by
     have:=congrArg Prod.fst hxy;simpa using this
    obtain⟨lb,q3,q4⟩:=Zkv t1 tb cb bb g1 (fun n hn=>hw n (by
     simp only [DataW.weights,hT]
     refine List.mem_cons_of_mem _ (List.mem_append_left _ (Zcq (i:=i) (d:=D i) (by simp[hi]) _ ?_))
     rw[hDi]
     simp only [DataW.weights,hE,DataW.weightsEach,List.map_cons,List.map_nil,List.append_nil]
     exact List.mem_append_right _ hn))
    simp at q0;subst q0;exact⟨(z0,lb),v1,by simpa using e0,by simpa using e1,q3,q4⟩
  obtain⟨F,hF⟩:=choose_lt (α:=Int×List UInt8) each;have hlen:((List.range len).map F).length=len:=by simp
  refine⟨(List.range len).map F,some x,m,by rw[hlen],by rw[hlen];omega,fun u hu=> ?_,?_⟩
  ·obtain⟨i,hi,rfl⟩:=List.mem_map.1 hu
   obtain⟨_,_,_,_,h5⟩:=hF i (by simpa using hi);omega
  ·rcases Nat.eq_zero_or_pos len with h0|h0
   ·left;rw[h0];rfl
   ·right
    obtain⟨b,off,spot⟩:=x;have hspot:spot=none:=by
     obtain⟨u,h0',_⟩:=hF 0 (by omega);simpa [Addr.add]using World.cell?_spot h0'
    subst hspot;refine⟨b,off,rfl,?_,fun j hj=> ?_⟩
    ·obtain⟨u,h1,_⟩:=hF 0 (by omega)
     rw[Go.WideShapes.add_plain]at h1;exact block_lt_of_cell h1
    ·rw[hlen]at hj
     obtain⟨u,h1,h2,h3,h4⟩:=hF j hj;rw[Go.WideShapes.add_plain]at h1 h2;rw[List.getElem_map,List.getElem_range];exact⟨h1,u,by rw[show off+j*2+1=off+(j*2+1) by omega];exact h2,h3⟩
theorem PutSeg.few'{w:World}{us:List (Int×List UInt8)}(h:PutSeg w v us):us.length≤140737488355328:=by
 obtain⟨a,c,h1,h2,-⟩:=h;exact h2
end Go.Proofs.YtmemlkmnhcealaaGreat
