/- Several texts in one: PlzE, RlL, RlM, RlN, RlO. -/
import Derived.Test.YtebmephdnjccjaaGreatMrg31
import Derived.Test.YtebmephdnjccjaaGreatMrg33
import Derived.Deep.RegionLaw
import Derived.Laws.CopyOwn
set_option linter.unusedVariables false
set_option maxRecDepth 100000
set_option maxHeartbeats 8000000
namespace Go.Proofs.YtebmephdnjccjaaGreat
open Go.RowKit
theorem ref_Of (M C S b:Nat) (w:World) (h:geoIs M C S=true) (hb:b<S*C*(M-1)):Calls Tryz.prog 60 #[geo M C S,.int .i64 b] w fun e w'=>(∃t p:Int,e=.returned (.tuple #[placeVal t (rowOf M C b:Nat) (membOf M C b:Nat) p,.int .i64 0]))/\Below w.heap.size w w':=by
  obtain⟨h1,h2,h3,h4,h5,h6⟩:=(geoIs_iff M C S).1 h;have hk:=Lib.hid (fun W=>ref_check M C S W);have hbk:=Lib.hid (fun W=>ref_blocks M C S W h);obtain⟨hlo,hhi⟩:=geo_bounds h;have hSC:S*C≤4096:=by exact_mod_cast hhi
  unfold geoCode at hk;rw[h]at hk;simp only [if_true]at hk;have hb':(b:Int)<(S:Int)*C*((M:Int)-1):=by
    have e1:((M-1:Nat):Int)=(M:Int)-1:=by omega
    rw[<-e1];exact_mod_cast hb
  have hD0:0<(M-1)*C:=Nat.mul_pos (by omega) (by omega);have hD1:(M-1)*C≤15*16:=Nat.mul_le_mul (by omega) (by omega);have hDe:((M:Int)-1)*(C:Int)=(((M-1)*C:Nat):Int):=by
    rw[Int.natCast_mul];congr 1;omega
  have hT0:b/((M-1)*C)≤4096:=by
    rw[Nat.div_le_iff_le_mul_add_pred hD0];have:S*C*(M-1)=S*((M-1)*C):=by rw[Nat.mul_assoc,Nat.mul_comm C]
    have h3:b<S*((M-1)*C):=by omega
    have h4:S*((M-1)*C)≤256*((M-1)*C):=Nat.mul_le_mul_right _ (by omega);have h5:256*((M-1)*C)≤4096*((M-1)*C):=Nat.mul_le_mul_right _ (by omega);rw[Nat.mul_comm ((M-1)*C) 4096];omega
  have hI0:b%((M-1)*C)<(M-1)*C:=Nat.mod_lt _ hD0;have hP0:b/((M-1)*C)%M<M:=Nat.mod_lt _ (by omega);unfold rowOf membOf memOf stripeOf;generalize hD:(M-1)*C=D at*;have hTe:(b:Int)/(D:Int)=((b/D:Nat):Int):=rfl;have hIe:Int.tmod (b:Int) (D:Int)=((b%D:Nat):Int):=rfl;have hX0:b/D*C≤4096*16:=Nat.mul_le_mul hT0 (by omega);have hXe:((b/D:Nat):Int)*(C:Int)=((b/D*C:Nat):Int):=(Int.natCast_mul _ _).symm;have hJe:((b%D:Nat):Int)/(C:Int)=((b%D/C:Nat):Int):=rfl;have hKe:Int.tmod ((b%D:Nat):Int) (C:Int)=((b%D%C:Nat):Int):=rfl;have hPe:Int.tmod ((b/D:Nat):Int) (M:Int)=((b/D%M:Nat):Int):=rfl;have hK0:b%D%C<C:=Nat.mod_lt _ (by omega);have hJ0:b%D/C≤300:=by have:=Nat.div_le_self (b%D) C;have:D≤240:=hD1;omega
  have hPP:((M-1-b/D%M:Nat):Int)=(M:Int)-1-((b/D%M:Nat):Int):=by omega
  have hMe:Int.tmod ((M-1-b/D%M+1+b%D/C:Nat):Int) (M:Int)=(((M-1-b/D%M+1+b%D/C)%M:Nat):Int):=rfl;have hME:((M-1-b/D%M+1+b%D/C:Nat):Int)=((M-1-b/D%M:Nat):Int)+1+((b%D/C:Nat):Int):=by omega
  rw[hME]at hMe;have hPPle:M-1-b/D%M≤16:=by omega
  clear hME;generalize (M-1-b/D%M+1+b%D/C)%M=mm at*;generalize M-1-b/D%M=pp at*;generalize b/D%M=pq at*;generalize b/D*C=X at*;generalize b%D/C=J at*;generalize b%D%C=K at*;generalize b/D=T at*;generalize b%D=I at*;have hX1:X≤65536:=hX0;have hD2:D≤240:=hD1;have hpq:(M:Int)-1-(pq:Int)=(pp:Int):=hPP.symm;have hhi2:(S:Int)*(C:Int)≤4096:=hhi;have hlo2:0≤(S:Int)*(C:Int):=hlo;clear hb hI0 hSC hD hX0 hD1 hlo hhi hPP;have hCn:¬(C:Int)=0:=by clear hb' hhi2 hlo2;omega
  have hDn:¬(D:Int)=0:=by clear hb' hhi2 hlo2;omega
  have hMn:¬(M:Int)=0:=by clear hb' hhi2 hlo2;omega
  have hCn':¬C=0:=by clear hb' hhi2 hlo2;omega
  have hDn':¬D=0:=by clear hb' hhi2 hlo2;omega
  have hMn':¬M=0:=by clear hb' hhi2 hlo2;omega
  generalize (S:Int)*(C:Int)=q at*;have hM15:(M:Int)-1≤15:=by clear hb' hhi2 hlo2;omega
  have hM0:0≤(M:Int)-1:=by clear hb' hhi2 hlo2;omega
  have hn1:decide ((b:Int)<0)=false:=decide_eq_false (Int.not_lt.2 (Int.natCast_nonneg b));have hn2:decide (q*((M:Int)-1)≤(b:Int))=false:=decide_eq_false (Int.not_le.2 hb');have hb0:Below w.heap.size w ((w.alloc (.cells #[.int .i64 M,.int .i64 C,.int .i64 S] 23)).alloc (.cells #[.int .i64 0,.int .i64 0,.int .i64 0,.int .i64 0] 89)):=((Below.refl _ _).alloc (Nat.le_refl _) _).alloc (by rw[size_alloc];omega) _;have HG0:Hid (At ((w.alloc (.cells #[.int .i64 M,.int .i64 C,.int .i64 S] 23)).alloc (.cells #[.int .i64 0,.int .i64 0,.int .i64 0,.int .i64 0] 89)) w.heap.size #[.int .i64 M,.int .i64 C,.int .i64 S] 23):=(At.new _ _ _).alloc _;have HR0:Hid (At ((w.alloc (.cells #[.int .i64 M,.int .i64 C,.int .i64 S] 23)).alloc (.cells #[.int .i64 0,.int .i64 0,.int .i64 0,.int .i64 0] 89)) (w.heap.size+1) #[.int .i64 0,.int .i64 0,.int .i64 0,.int .i64 0] 89):=At.new2 _ _ _ _;have HB0:=Lib.hid hb0;clear hb' hlo2 hhi2 hD0 hM15 hM0 hb0;unfold geo placeVal at*;go_enter Tryz.func60,Tryz.ntmps60
  go_wp2_with (first
    |(go_at_call 41;(with_reducible refine(hk.out _).mono ?_);rintro e w1 ⟨rfl,hb1⟩;have HG1:=Lib.hid (HG0.out.below hb1 HG0.out.lt);have HR1:=Lib.hid (HR0.out.below hb1 HR0.out.lt);have HB1:=Lib.hid (below_then HB0.out hb1);have c0:=HG1.out.cell 0;have c1:=HG1.out.cell 1;have c2:=HG1.out.cell 2;clear hb1)
    |(go_at_call 13;(with_reducible refine(hbk.out _).mono ?_);rintro e w2 ⟨rfl,hb2⟩;have HG2:=Lib.hid (HG1.out.below hb2 HG1.out.lt);have HR2:=Lib.hid (HR1.out.below hb2 HR1.out.lt);have HB2:=Lib.hid (below_then HB1.out hb2);clear c0 c1 c2;have c0:=HG2.out.cell 0;have c1:=HG2.out.cell 1;have c2:=HG2.out.cell 2;clear hb2))
  go_quiet (fail);have HR3:Hid (At (w2.drewN nq) (w.heap.size+1) #[.int .i64 0,.int .i64 0,.int .i64 0,.int .i64 0] 89):=HR2.out;have HG3:Hid (At (w2.drewN nq) w.heap.size #[.int .i64 M,.int .i64 C,.int .i64 S] 23):=HG2.out;have HB3:=Lib.hid (below_drewN HB2.out nq);clear c0 c1 c2 hpq;generalize w2.drewN nq=w3 at*;have c0:=HG3.out.cell 0;have c1:=HG3.out.cell 1;have d0:=HR3.out.cell 0;have d1:=HR3.out.cell 1;have d2:=HR3.out.cell 2;have d3:=HR3.out.cell 3;have f0:=HR3.out.free 0;have f1:=HR3.out.free 1;have f2:=HR3.out.free 2;have f3:=HR3.out.free 3;go_wp2_with fail;go_region;all_goals
    have HF:=((((HR3.out.set 0 (.int .i64 T)).set 1 (.int .i64 ((X:Int)+(K:Int)))).set 2 (.int .i64 mm)).set 3 (.int .i64 pp)).drew
    have r0:=HF.cell 0
    have r1:=HF.cell 1
    have r2:=HF.cell 2
    have r3:=HF.cell 3
    have HB9:=Lib.hid ((((HB3.out.setCell (p:=⟨w.heap.size+1,0,none⟩) (Nat.le_succ _) (.int .i64 T)).setCell (p:=⟨w.heap.size+1,1,none⟩) (Nat.le_succ _) (.int .i64 ((X:Int)+(K:Int)))).setCell (p:=⟨w.heap.size+1,2,none⟩) (Nat.le_succ _) (.int .i64 mm)).setCell (p:=⟨w.heap.size+1,3,none⟩) (Nat.le_succ _) (.int .i64 pp)).drew
    clear d0 d1 d2 d3 f0 f1 f2 f3 c0 c1
    go_wp2
    generalize ((((w3.setCell ⟨w.heap.size+1,0,none⟩ (.int .i64 T)).setCell ⟨w.heap.size+1,1,none⟩ (.int .i64 ((X:Int)+(K:Int)))).setCell ⟨w.heap.size+1,2,none⟩ (.int .i64 mm)).setCell ⟨w.heap.size+1,3,none⟩ (.int .i64 pp)).drew=w9 at*
    (try simp only [Exit.inBlock,Exit.then])
    refine bodyPost_ret (v:=.tuple #[.agg #[.int .i64 T,.int .i64 ((X:Int)+(K:Int)),.int .i64 mm,.int .i64 pp],.int .i64 0]) ?_ rfl ⟨⟨T,pp,by rw[Int.natCast_add]⟩,HB9.out⟩
    rw[results_cell_tmp rfl]
    go_simp
    try rfl
open Go.RowKit
theorem r06_Of_no (M C S:Nat) (b:Int) (w:World) (h:geoIs M C S=true) (hb:¬thereIs M C S b):
    Calls Tryz.prog 60 #[geo M C S,.int .i64 b] w fun e w'=>(∃t r m p:Int,e=.returned (.tuple #[placeVal t r m p,.int .i64 3]))/\Below w.heap.size w w':=by
  have hk:=Lib.hid (fun W=>ref_check M C S W);have hbk:=Lib.hid (fun W=>ref_blocks M C S W h);unfold geoCode at hk;rw[h]at hk;simp only [if_true]at hk;have hz:=geo_small h;have hb0:Below w.heap.size w ((w.alloc (.cells #[.int .i64 M,.int .i64 C,.int .i64 S] 23)).alloc (.cells #[.int .i64 0,.int .i64 0,.int .i64 0,.int .i64 0] 89)):=((Below.refl _ _).alloc (Nat.le_refl _) _).alloc (by rw[size_alloc];omega) _;have HG0:Hid (At ((w.alloc (.cells #[.int .i64 M,.int .i64 C,.int .i64 S] 23)).alloc (.cells #[.int .i64 0,.int .i64 0,.int .i64 0,.int .i64 0] 89)) w.heap.size #[.int .i64 M,.int .i64 C,.int .i64 S] 23):=(At.new _ _ _).alloc _;have HR0:Hid (At ((w.alloc (.cells #[.int .i64 M,.int .i64 C,.int .i64 S] 23)).alloc (.cells #[.int .i64 0,.int .i64 0,.int .i64 0,.int .i64 0] 89)) (w.heap.size+1) #[.int .i64 0,.int .i64 0,.int .i64 0,.int .i64 0] 89):=At.new2 _ _ _ _;have HB0:=Lib.hid hb0;clear hb0;unfold thereIs at hb;generalize (S:Int)*C*((M:Int)-1)=z at*;unfold geo placeVal at*;by_cases h0:b<0
  · have hz1:¬z≤b:=by omega
    go_enter Tryz.func60,Tryz.ntmps60
    go_wp2_with (first
      |(go_at_call 41;(with_reducible refine(hk.out _).mono ?_);rintro e w1 ⟨rfl,hb1⟩;have HG1:=Lib.hid (HG0.out.below hb1 HG0.out.lt);have HR1:=Lib.hid (HR0.out.below hb1 HR0.out.lt);have HB1:=Lib.hid (below_then HB0.out hb1);have c0:=HG1.out.cell 0;have c1:=HG1.out.cell 1;have c2:=HG1.out.cell 2;have hgl:=HG1.out.lt;clear hb1)
      |(go_at_call 13;(with_reducible refine(hbk.out _).mono ?_);rintro e w2 ⟨rfl,hb2⟩;have HR2:=Lib.hid (HR1.out.below hb2 HR1.out.lt);have HB2:=Lib.hid (below_then HB1.out hb2);clear c0 c1 c2;have d0:=HR2.out.cell 0;have d1:=HR2.out.cell 1;have d2:=HR2.out.cell 2;have d3:=HR2.out.cell 3;have f0:=HR2.out.free 0;have f1:=HR2.out.free 1;have f2:=HR2.out.free 2;have f3:=HR2.out.free 3;have hrl:=HR2.out.lt;have hF:=(((HR2.out.set 0 (.int .i64 0)).set 1 (.int .i64 0)).set 2 (.int .i64 0)).set 3 (.int .i64 0);have r0:=hF.cell 0;have r1:=hF.cell 1;have r2:=hF.cell 2;have r3:=hF.cell 3;clear hF hb2))
    (try simp only [Exit.inBlock,Exit.then]);refine bodyPost_ret (v:=.tuple #[.agg #[.int .i64 0,.int .i64 0,.int .i64 0,.int .i64 0],.int .i64 3]) ?_ rfl ⟨⟨_,_,_,_,rfl⟩,(((HB2.out.setCell (p:=⟨w.heap.size+1,0,none⟩) (Nat.le_succ _) _).setCell (p:=⟨w.heap.size+1,1,none⟩) (Nat.le_succ _) _).setCell (p:=⟨w.heap.size+1,2,none⟩) (Nat.le_succ _) _).setCell (p:=⟨w.heap.size+1,3,none⟩) (Nat.le_succ _) _⟩;rw[results_cell_tmp rfl];go_simp;try rfl
  · have hz1:z≤b:=by omega
    go_enter Tryz.func60,Tryz.ntmps60
    go_wp2_with (first
      |(go_at_call 41;(with_reducible refine(hk.out _).mono ?_);rintro e w1 ⟨rfl,hb1⟩;have HG1:=Lib.hid (HG0.out.below hb1 HG0.out.lt);have HR1:=Lib.hid (HR0.out.below hb1 HR0.out.lt);have HB1:=Lib.hid (below_then HB0.out hb1);have c0:=HG1.out.cell 0;have c1:=HG1.out.cell 1;have c2:=HG1.out.cell 2;have hgl:=HG1.out.lt;clear hb1)
      |(go_at_call 13;(with_reducible refine(hbk.out _).mono ?_);rintro e w2 ⟨rfl,hb2⟩;have HR2:=Lib.hid (HR1.out.below hb2 HR1.out.lt);have HB2:=Lib.hid (below_then HB1.out hb2);clear c0 c1 c2;have d0:=HR2.out.cell 0;have d1:=HR2.out.cell 1;have d2:=HR2.out.cell 2;have d3:=HR2.out.cell 3;have f0:=HR2.out.free 0;have f1:=HR2.out.free 1;have f2:=HR2.out.free 2;have f3:=HR2.out.free 3;have hrl:=HR2.out.lt;have hF:=(((HR2.out.set 0 (.int .i64 0)).set 1 (.int .i64 0)).set 2 (.int .i64 0)).set 3 (.int .i64 0);have r0:=hF.cell 0;have r1:=hF.cell 1;have r2:=hF.cell 2;have r3:=hF.cell 3;clear hF hb2))
    (try simp only [Exit.inBlock,Exit.then]);refine bodyPost_ret (v:=.tuple #[.agg #[.int .i64 0,.int .i64 0,.int .i64 0,.int .i64 0],.int .i64 3]) ?_ rfl ⟨⟨_,_,_,_,rfl⟩,(((HB2.out.setCell (p:=⟨w.heap.size+1,0,none⟩) (Nat.le_succ _) _).setCell (p:=⟨w.heap.size+1,1,none⟩) (Nat.le_succ _) _).setCell (p:=⟨w.heap.size+1,2,none⟩) (Nat.le_succ _) _).setCell (p:=⟨w.heap.size+1,3,none⟩) (Nat.le_succ _) _⟩;rw[results_cell_tmp rfl];go_simp;try rfl
open Go.RowKit
theorem splice_append {α:Type} (F G cs:List α) (off:Nat) (h:off+cs.length≤F.length):splice (F++G) off cs=splice F off cs++G:=by
  unfold splice;rw[List.take_append_of_le_length (by omega),List.drop_append_of_le_length h,List.append_assoc,List.append_assoc]
theorem splice_end {α:Type} (F G cs:List α) (off:Nat) (ho:off=F.length) (h:cs.length=G.length):splice (F++G) off cs=F++cs:=by
  unfold splice;subst ho;rw[List.take_left,List.drop_of_length_le (by rw[List.length_append];omega),List.append_nil]
theorem splice_take {α:Type} (L cs:List α) (off n:Nat) (h:off+cs.length≤n) (hn:n≤L.length):(splice L off cs).take n=splice (L.take n) off cs:=by
  have e:L=L.take n++L.drop n:=(List.take_append_drop n L).symm;have hl:(L.take n).length=n:=by rw[List.length_take];omega
  have h1:splice L off cs=splice (L.take n) off cs++L.drop n:=by
    conv=>lhs;rw[e]
    exact splice_append _ _ _ _ (by omega)
  rw[h1,List.take_append_of_le_length (by rw[length_splice _ _ _ (by omega)];omega),List.take_of_length_le (by rw[length_splice _ _ _ (by omega)];omega)]
theorem ucells_splice (l cs:List UInt8) (off:Nat):ucells (splice l off cs)=splice (ucells l) off (ucells cs):=by
  unfold splice ucells;simp[List.map_take,List.map_drop]
theorem flat_splice {D:Nat->Sec} {b:Nat} {d:Sec} (hd:d.length=128):∀{n:Nat},b<n->(∀k,k<n->(D k).length=128)->splice (flatD D n) (128*b) d=flatD (fun k=>if k=b then d else D k) n
  |0,hb,_=>by omega
  |n+1,hb,hl=>by
    have hfl:=flatD_length (D:=D) (n:=n) (fun k hk=>hl k (by omega));rw[flatD_succ,flatD_succ];by_cases e:b=n
    · subst e
      rw[splice_end _ _ _ _ hfl.symm (by rw[hd,hl b (by omega)]),if_pos rfl,flatD_congr (D:=D) (E:=fun k=>if k=b then d else D k) (fun k hk=>by rw[if_neg (by omega)])]
    · rw[splice_append _ _ _ _ (by rw[hfl,hd];omega),flat_splice hd (by omega) (fun k hk=>hl k (by omega)),if_neg (by omega)]
theorem layK_length {D:Nat->Sec} {us:List (Int×List UInt8)} {M C S:Nat} (ok:BatchOk M C S us):∀{k:Nat},k≤us.length->∀{b:Nat},(D b).length=128->(layK D us k b).length=128
  |0,_,b,h=>h
  |k+1,hk,b,h=>by
    show(if (b:Int)=(us.getD k put0).1 then (us.getD k put0).2 else layK D us k b).length=128
    split
    · rw[getD_put us k (by omega)]
      exact ok.len _ (List.getElem_mem _)
    · exact layK_length ok (by omega) h
theorem row_cells {W:World} {B n:Nat} {v:Value} {xs:List Value} (h:W.ownsRow B 5 1 v n xs) (hn:0<n):∃g cap,∃cur:List Value,v=.slice (some ⟨g,0,none⟩) n cap/\B≤g/\At W g cur.toArray 5/\cur.length=cap/\n≤cap/\cap≤9223372036854775807/\cur.take n=xs:=by
  rcases h.2 with ⟨_,h0⟩|⟨g,cap,cur,rfl,hb,hg,hnc,hcm,hcs,htake⟩
  · omega
  · refine⟨g,cap,cur.toList,rfl,hb,by show W.heap[g]?=some (.cells cur.toList.toArray 5 (0,0));simpa using hg,by simpa using hcs,hnc,by unfold maxLen at hcm;omega,by simpa using htake⟩
theorem cells_row {W:World} {B n g cap:Nat} {cur:List Value} {xs:List Value} (h:At W g cur.toArray 5) (hb:B≤g) (hl:cur.length=cap) (hn:n≤cap) (hc:cap≤9223372036854775807) (ht:cur.take n=xs):W.ownsRow B 5 1 (.slice (some ⟨g,0,none⟩) n cap) n xs:=by
  refine⟨by rw[<-ht,List.length_take];omega,.inr ⟨g,cap,cur.toArray,rfl,hb,h,hn,by unfold maxLen;omega,by simpa using hl,by simpa using ht⟩⟩
theorem r14_laid (M C S:Nat) (va vu:Value) (D:Nat->Sec) (us:List (Int×List UInt8)) (W:World) (hg:geoIs M C S=true) (ok:BatchOk M C S us) (hv:PutSeg W vu us) (hD:∀k,k<S*C*(M-1)->(D k).length=128) (ha:Seg W va (flatD D (S*C*(M-1)))):
    Calls Tryz.prog 18 #[va,vu] W fun e w'=>∃x n c,e=.returned (.slice x n c)/\w'.ownsRow W.heap.size 5 1 (.slice x n c) (128*(S*C*(M-1))) (ucells (flatD (layK D us us.length) (S*C*(M-1))))/\Below W.heap.size W w':=by
  obtain⟨g1,g2,g3,g4⟩:=geo_pos hg;have hB0:0<S*C*(M-1):=Nat.mul_pos g3 (by omega);have hBf:S*C*(M-1)≤61440:=Nat.mul_le_mul g4 (by omega:M-1≤15);have hfl:=flatD_length hD;have HTH:Hid (∀i (hi:i<us.length),∃n:Nat,(us[i]'hi).1=n/\n<S*C*(M-1)/\(us[i]'hi).2.length=128):=fun i hi=>by
    obtain⟨n,h1,h2⟩:=there_nat (ok.there _ (List.getElem_mem hi)) ok.hg;exact⟨n,h1,h2,ok.len _ (List.getElem_mem hi)⟩
  have HLY:Hid (∀i,i≤us.length->∀k,k<S*C*(M-1)->(layK D us i k).length=128):=fun i hi k hk=>layK_length ok hi (hD k hk)
  have HSU:Hid (∀i (hi:i<us.length) (n:Nat),(us[i]'hi).1=n->layK D us (i+1)=fun k=>if k=n then (us[i]'hi).2 else layK D us i k):=fun i hi n hn=>by
    funext k;show(if (k:Int)=(us.getD i put0).1 then (us.getD i put0).2 else layK D us i k)=_
    rw[getD_put us i hi,hn];by_cases e:k=n
    · rw[if_pos (by exact_mod_cast e),if_pos e]
    · rw[if_neg (by exact_mod_cast e),if_neg e]
  generalize S*C*(M-1)=B at*;obtain⟨xa,xc,hva⟩:=ha.shape;rw[hfl]at hva;subst hva;obtain⟨pa,pc,rfl⟩:=hv.shape;obtain⟨ab,ao,ac,hae,halt,hacell⟩:=ha.full (by rw[hfl];omega);simp only [Value.slice.injEq]at hae;obtain⟨rfl,-,rfl⟩:=hae;have HSRC:Hid (∀j u,(ucells (flatD D B))[j]?=some u->W.cell? ((⟨ab,ao,none⟩:Addr).add j)=some u):=fun j u hj=>by
    unfold ucells at hj;rw[List.getElem?_map]at hj;obtain⟨x,hx,rfl⟩:=Option.map_eq_some_iff.1 hj;obtain⟨hjl,rfl⟩:=List.getElem?_eq_some_iff.1 hx;rw[Go.WideShapes.add_plain];exact hacell j hjl
  have HV:=Lib.hid hv;have HF:=Lib.hid hfl;have hful:=hv.few';clear hv ha hacell hD hfl ok hg g1 g2 g3 g4;go_enter Tryz.func18,Tryz.ntmps18
  go_wp2_with (first
    |(refine wpList_append_many rfl _ _ 35 5 1 1 rfl slice_bytes W.heap.size (.slice none 0 0) 0 [] rfl (World.ownsRow_nil _ _ _ _) (some ⟨ab,ao,none⟩) (128*B) xc (ucells (flatD D B)) rfl (by rw[ucells_length,HF.out];omega) (fun e=>by cases e) (fun ad e=>by simp only [Option.some.injEq]at e;subst e;exact HSRC.out) (ucells_one _) (by unfold maxLen;omega) (by omega) (Nat.le_refl _) ?_;intro v' w1 hown hb1 hg1;have HB1:=Lib.hid hb1;have hown':w1.ownsRow W.heap.size 5 1 v' (128*B) (ucells (flatD D B)):=(by simpa using hown);obtain⟨og,oc,cur,rfl,hog,hoa,hol,hon,hom,hot⟩:=row_cells hown' (by omega);have HOA:=Lib.hid hoa;have HOT:=Lib.hid hot;clear hown hown' hb1 hg1 hoa hot))
  go_loopw [6] (fun q wr=>∃i:Nat,i≤us.length/\q=.int .i64 i/\∃cu:List Value,At wr og cu.toArray 5/\cu.length=oc/\cu.take (128*B)=ucells (flatD (layK D us i) B)/\Below W.heap.size W wr) (fun q _=>us.length-(intOf q).toNat);case atStart=>exact⟨0,by omega,rfl,cur,HOA.out,hol,HOT.out,HB1.out⟩
  case round=>
    obtain⟨i,hi,rfl,cu,hat,hcl,hct,hbel⟩:=hrel;have HAT:=Lib.hid hat;have HCT:=Lib.hid hct;have HBE:=Lib.hid hbel;have hgl:=hat.lt;by_cases hil:i<us.length
    · have K1:Hid (i+1≤us.length):=hil
      obtain⟨nb,h1,h2,h3⟩:=HTH.out i hil;obtain⟨pb,po,rfl,hplt,hpx⟩:=putsFull (HV.out.below hbel) (by omega);obtain⟨y0,u,y1,hus⟩:=hpx i hil;obtain⟨db,dof,dc,hde,hdlt,hdcell⟩:=hus.full (by omega);rw[h3]at hde;subst hde;rw[h1]at y0;have HSD:Hid (∀(w':World),(∀q,q<wr.heap.size->w'.heap[q]?=wr.heap[q]?)->∀j u,(ucells (us[i]'hil).2)[j]?=some u->w'.cell? ((⟨db,dof,none⟩:Addr).add j)=some u):=fun w' hw j u hj=>by
        unfold ucells at hj;rw[List.getElem?_map]at hj;obtain⟨x,hx,rfl⟩:=Option.map_eq_some_iff.1 hj;obtain⟨hjl,rfl⟩:=List.getElem?_eq_some_iff.1 hx;rw[Go.WideShapes.add_plain];exact(World.cell?_of_block (hw db hdlt)).trans (hdcell j hjl)
      have HSUI:=Lib.hid (HSU.out i hil nb h1);have hul:(ucells (us[i]'hil).2).length=128:=by rw[ucells_length,h3]
      have HU1:=Lib.hid (ucells_one (us[i]'hil).2);have HFS:Hid ((splice cu (128*nb) (ucells (us[i]'hil).2)).take (128*B)=ucells (flatD (layK D us (i+1)) B)):=by
        show _=_
        rw[splice_take _ _ _ _ (by rw[hul];omega) (by omega),hct,<-ucells_splice,flat_splice h3 h2 (fun k hk=>HLY.out i hi k hk),HSUI.out]
      have HSL:Hid ((splice cu (128*nb) (ucells (us[i]'hil).2)).length=oc):=by
        show _=_
        rw[length_splice _ _ _ (by rw[hul];omega)];exact hcl
      clear hpx hus hdcell hat hct hbel h1 h3;generalize (us[i]'hil).2=d at*;obtain⟨T,hT⟩:∃T,T=128*nb:=⟨_,rfl⟩;have hwp:IntKind.i64.wrap (128*(nb:Int))=(T:Int):=by rw[IntKind.wrap_i64];omega
      have hnb:T+128≤128*B:=by omega
      have hoT:¬oc=T:=by omega
      have hTB:(T:Int)≤128*(B:Int):=by omega
      rw[<-hT]at HFS HSL;clear hT;go_wp2;go_region_law (refine step_copy_splice rfl (.tmp 23) (.tmp 28) 35 35 rfl 5 Tryz.underlying35 (by kernel_rfl) _ _ _ _ _ _ rfl rfl og T cu 5 HAT.out (ucells d) (by rw[hul];exact(Nat.min_eq_left (by omega)).symm) (fun _=>⟨rfl,_,rfl,HSD.out _ (fun _ _=>rfl)⟩) (by rw[hul];omega) HU1.out W.heap.size W HBE.out.drew hog ?_;intro w4 hg4 hb4);all_goals go_wp2
      all_goals exact⟨⟨i+1,K1.out,by go_num,_,hg4.out,HSL.out,HFS.out,hb4⟩,by simp[intOf];omega⟩
    · obtain rfl:i=us.length:=by omega
      go_wp2;go_ret;exact⟨_,_,_,rfl,cells_row HAT.out hog hcl hon hom HCT.out,HBE.out⟩
open Go.RowKit
theorem wcode_bad {M C S size:Nat} {us:List (Int×List UInt8)} (h:¬BatchOk M C S us):decide (wcode M C S size us=0)=false:=by
  have h1:splitCode M C S us≠0:=fun e=>h (split_code_ok e)
  have h0:=split_code_nat M C S us;rw[decide_eq_false_iff_not];unfold wcode;rw[if_pos h1];omega
theorem split_of_ok {M C S:Nat} {us:List (Int×List UInt8)} (ok:BatchOk M C S us):splitCode M C S us=0:=by
  unfold splitCode;rw[if_neg (by rw[ok.hg];simp),if_neg (by have:=ok.few;omega),if_neg,if_neg]
  · rw[any_not]
    rintro ⟨u,hu,h⟩;exact h (ok.len u hu)
  · rw[any_not]
    rintro ⟨u,hu,h⟩;exact h (ok.there u hu)
theorem wcode_ok {M C S size:Nat} {us:List (Int×List UInt8)} (ok:BatchOk M C S us) (h1:1≤size):decide (wcode M C S size us=0)=decide ((2*newTo M C us us.length+1:Int)≤(size:Int)):=by
  have hn:=new_all ok;unfold wcode;rw[if_neg (by rw[split_of_ok ok];simp)];by_cases hu:us= []
  · subst hu
    rw[if_pos rfl];have:newTo M C ([]:List (Int×List UInt8)) ([]:List (Int×List UInt8)).length=0:=rfl;rw[this];simp;omega
  · rw[if_neg hu,hn]
    by_cases hz:size<2*mostIn M (S*C) (tabAll M C us)+1
    · rw[if_pos hz,decide_eq_false (by decide),decide_eq_false (by omega)]
    · rw[if_neg hz,decide_eq_true rfl,decide_eq_true (by omega)]
theorem newTo_le (M C:Nat) (us:List (Int×List UInt8)):∀k,newTo M C us k≤2*k
  |0=>Nat.le_refl _
  |k+1=>by
    have ih:=newTo_le M C us k;show newTo M C us k+(if newB us k k=true then 1 else 0)+(if newR M C us k k=true then 1 else 0)≤_
    split<;>split<;>omega
theorem r14_good (M C S ring:Nat) (lazy:Bool) (more:Int) (v:Value) (us:List (Int×List UInt8)) (w:World) (hv:PutSeg w v us) (hg:geoIs M C S=true) (hr:1≤ring) (hr2:ring≤2048):
    Calls Tryz.prog 17 #[madeVal M C S ring lazy more,v] w fun e w'=>e=.returned (.bool (decide (wcode M C S ring us=0)))/\Below w.heap.size w w':=by
  have hb0:Below w.heap.size w (w.alloc (.cells #[.int .i64 M,.int .i64 C,.int .i64 S,.int .i64 ring,.bool lazy,.int .i64 more] 25)):=(Below.refl _ _).alloc (Nat.le_refl _) _;have ha0:At (w.alloc (.cells #[.int .i64 M,.int .i64 C,.int .i64 S,.int .i64 ring,.bool lazy,.int .i64 more] 25)) w.heap.size #[.int .i64 M,.int .i64 C,.int .i64 S,.int .i64 ring,.bool lazy,.int .i64 more] 25:=At.new _ _ _;have HOF:Hid (∀n,n<S*C*(M-1)->∀W,Calls Tryz.prog 60 #[.agg #[.int .i64 M,.int .i64 C,.int .i64 S],.int .i64 n] W fun e w'=>(∃t p:Int,e=.returned (.tuple #[.agg #[.int .i64 t,.int .i64 (rowOf M C n:Nat),.int .i64 (membOf M C n:Nat),.int .i64 p],.int .i64 0]))/\Below W.heap.size W w'):=fun n hn W=>ref_Of M C S n W hg hn
  have HNO:Hid (∀b,¬thereIs M C S b->∀W,Calls Tryz.prog 60 #[.agg #[.int .i64 M,.int .i64 C,.int .i64 S],.int .i64 b] W fun e w'=>(∃t r m p:Int,e=.returned (.tuple #[.agg #[.int .i64 t,.int .i64 r,.int .i64 m,.int .i64 p],.int .i64 3]))/\Below W.heap.size W w'):=fun b hb W=>r06_Of_no M C S b W hg hb
  obtain⟨pa,pc,rfl⟩:=hv.shape;have HV:=Lib.hid (hv.below hb0);have HB0:=Lib.hid hb0;have HA0:=Lib.hid ha0;have hl0:=ha0.lt;have hful:=hv.few';have HBAD:=Lib.hid (fun (h:¬BatchOk M C S us)=>wcode_bad (size:=ring) h);have HGD:=Lib.hid (fun (ok:BatchOk M C S us)=>wcode_ok ok hr);have HGE:=Lib.hid hg;clear hv hb0 ha0 hg;unfold madeVal;by_cases h256:256<us.length
  · rw[HBAD.out (fun ok=>by have:=ok.few;omega)]
    go_enter Tryz.func17,Tryz.ntmps17;go_wp2;go_ret;exact⟨rfl,HB0.out⟩
  generalize hDW:decide (wcode M C S ring us=0)=dw at*;go_enter Tryz.func17,Tryz.ntmps17;go_wp2;go_loopw [5,6] (fun n q wr=>∃i:Nat,i≤us.length/\q=.int .i64 i/\n=.int .i64 (newTo M C us i:Nat)/\(∀j (hj:j<us.length),j<i->thereIs M C S (us[j]'hj).1/\(us[j]'hj).2.length=128)/\Below (w.alloc (.cells #[.int .i64 M,.int .i64 C,.int .i64 S,.int .i64 ring,.bool lazy,.int .i64 more] 25)).heap.size (w.alloc (.cells #[.int .i64 M,.int .i64 C,.int .i64 S,.int .i64 ring,.bool lazy,.int .i64 more] 25)) wr) (fun _ q _=>us.length-(intOf q).toNat);case atStart=>exact⟨0,by omega,rfl,rfl,fun j _ h=>by omega,Below.refl _ _⟩
  case round=>
    obtain⟨i,hi,rfl,rfl,hval,hbel⟩:=hrel;have HVA:=Lib.hid hval;have HBE:=Lib.hid hbel;have hnt:=newTo_le M C us i;clear hval;by_cases hil:i<us.length
    · have K1:Hid (i+1≤us.length):=hil
      obtain⟨pb,po,rfl,hplt,hpx⟩:=putsFull (HV.out.below hbel) (by omega);have HPX:=Lib.hid hpx;obtain⟨y0,u,y1,hus⟩:=hpx i hil;obtain⟨da,dc,rfl⟩:=hus.shape;have hdl:=putsLen (HV.out.below hbel) i hil;have ha:=HA0.out.below hbel hl0;have HSS:Hid (∀X,Below wr.heap.size wr X->X.cell? ⟨w.heap.size,0,none⟩=some (.int .i64 M)/\X.cell? ⟨w.heap.size,1,none⟩=some (.int .i64 C)/\X.cell? ⟨w.heap.size,2,none⟩=some (.int .i64 S)/\X.cell? ⟨pb,po+i*2,none⟩=some (.int .i64 (us[i]'hil).1)/\X.cell? ⟨pb,po+i*2+1,none⟩=some (.slice da (us[i]'hil).2.length dc)):=fun X hX=>⟨(ha.below hX ha.lt).cell 0,(ha.below hX ha.lt).cell 1,(ha.below hX ha.lt).cell 2,(hX.cell hplt).trans y0,(hX.cell hplt).trans y1⟩
      clear hpx hus ha y0 y1;by_cases ht:thereIs M C S (us[i]'hil).1
      · obtain⟨nb,hnb,hnl⟩:=there_nat ht HGE.out
        have HOB:=Lib.hid (HOF.out nb hnl);have HS2:Hid (∀X,Below wr.heap.size wr X->X.cell? ⟨w.heap.size,0,none⟩=some (.int .i64 M)/\X.cell? ⟨w.heap.size,1,none⟩=some (.int .i64 C)/\X.cell? ⟨w.heap.size,2,none⟩=some (.int .i64 S)/\X.cell? ⟨pb,po+i*2,none⟩=some (.int .i64 nb)):=fun X hX=>⟨(HSS.out X hX).1,(HSS.out X hX).2.1,(HSS.out X hX).2.2.1,by rw[<-hnb];exact(HSS.out X hX).2.2.2.1⟩
        go_wp2;have HID2:=Lib.hid (Below.refl wr.heap.size wr);have HDR2:Hid (Below wr.heap.size wr wr.drew):=(Below.refl _ _).drew;have HAL2:Hid (Below wr.heap.size wr (wr.alloc (.cells #[.int .i64 0,.int .i64 0,.int .i64 0,.int .i64 0] 89))):=(Below.refl _ _).alloc (Nat.le_refl _) _;have HALD2:Hid (Below wr.heap.size wr (wr.alloc (.cells #[.int .i64 0,.int .i64 0,.int .i64 0,.int .i64 0] 89)).drew):=HAL2.out.drew;go_region_held3 (fun w'=>w'.cell? ⟨w.heap.size,0,none⟩=some (.int .i64 M)/\w'.cell? ⟨w.heap.size,1,none⟩=some (.int .i64 C)/\w'.cell? ⟨w.heap.size,2,none⟩=some (.int .i64 S)/\w'.cell? ⟨pb,po+i*2,none⟩=some (.int .i64 nb))
          (first|with_reducible exact HS2.out _ HID2.out|with_reducible exact HS2.out _ HDR2.out|with_reducible exact HS2.out _ HB52.out|with_reducible exact HS2.out _ HB5A2.out|with_reducible exact HS2.out _ HB5Z2.out|with_reducible exact HS2.out _ HAL2.out|with_reducible exact HS2.out _ HALD2.out|with_reducible exact HS2.out _ HB62.out)
          (first
            |(go_at_call 60;(with_reducible refine(HOB.out wr.drew).mono ?_);rintro e w2 ⟨⟨t0,p0,rfl⟩,hb4⟩;have HB52:=Lib.hid ((Below.refl wr.heap.size wr).drew.trans hb4);have HB5A2:=Lib.hid (HB52.out.alloc HB52.out.size (.cells #[.int .i64 t0,.int .i64 (rowOf M C nb:Nat),.int .i64 (membOf M C nb:Nat),.int .i64 p0] 89));have HB5Z2:=Lib.hid (HB52.out.alloc HB52.out.size (.cells #[.int .i64 0,.int .i64 0,.int .i64 0,.int .i64 0] 89));clear hb4)
            |(go_at_call 60;(with_reducible refine(HOB.out (wr.alloc (.cells #[.int .i64 0,.int .i64 0,.int .i64 0,.int .i64 0] 89)).drew).mono ?_);rintro e w2 ⟨⟨t0,p0,rfl⟩,hb4⟩;have HB52:Hid (Below wr.heap.size wr w2):=HALD2.out.trans (hb4.mono (by show wr.heap.size≤(wr.alloc _).heap.size;rw[size_alloc];omega));have hP4:At w2 wr.heap.size #[.int .i64 0,.int .i64 0,.int .i64 0,.int .i64 0] 89:=(At.new wr _ _).drew.below hb4 (by show wr.heap.size<(wr.alloc _).heap.size;rw[size_alloc];omega);have d0:=hP4.cell 0;have f0:=hP4.free 0;have d1:=hP4.cell 1;have f1:=hP4.free 1;have d2:=hP4.cell 2;have f2:=hP4.free 2;have d3:=hP4.cell 3;have f3:=hP4.free 3;have HP42:=Lib.hid hP4;have HB62:=Lib.hid (((((HB52.out.setCell (p:=⟨wr.heap.size,0,none⟩) (Nat.le_refl _) (.int .i64 t0)).setCell (p:=⟨wr.heap.size,1,none⟩) (Nat.le_refl _) (.int .i64 (rowOf M C nb:Nat))).setCell (p:=⟨wr.heap.size,2,none⟩) (Nat.le_refl _) (.int .i64 (membOf M C nb:Nat))).setCell (p:=⟨wr.heap.size,3,none⟩) (Nat.le_refl _) (.int .i64 p0)));clear hb4 hP4))
        all_goals first
          | (have HP52 : Hid (At ((((w2.setCell ⟨wr.heap.size, 0, none⟩ (.int .i64 t0)).setCell ⟨wr.heap.size, 1, none⟩ (.int .i64 (rowOf M C nb : Nat))).setCell ⟨wr.heap.size, 2, none⟩ (.int .i64 (membOf M C nb : Nat))).setCell ⟨wr.heap.size, 3, none⟩ (.int .i64 p0)) wr.heap.size #[.int .i64 t0, .int .i64 (rowOf M C nb : Nat), .int .i64 (membOf M C nb : Nat), .int .i64 p0] 89) := ((((HP42.out.set 0 (.int .i64 t0)).set 1 (.int .i64 (rowOf M C nb : Nat))).set 2 (.int .i64 (membOf M C nb : Nat))).set 3 (.int .i64 p0))
             have HB72:=Lib.hid HB62.out
             clear HB62 HP42 HB52 d0 d1 d2 d3 f0 f1 f2 f3
             generalize ((((w2.setCell ⟨wr.heap.size,0,none⟩ (.int .i64 t0)).setCell ⟨wr.heap.size,1,none⟩ (.int .i64 (rowOf M C nb:Nat))).setCell ⟨wr.heap.size,2,none⟩ (.int .i64 (membOf M C nb:Nat))).setCell ⟨wr.heap.size,3,none⟩ (.int .i64 p0))=V2 at*
             obtain⟨pb2,hpb0⟩:∃pb2,pb2=wr.heap.size:=⟨_,rfl⟩
             have hpb2:wr.heap.size≤pb2:=by omega
             rw[<-hpb0]at HP52 ⊢
             clear hpb0)
          | (have HP52 : Hid (At (w2.alloc (.cells #[.int .i64 t0, .int .i64 (rowOf M C nb : Nat), .int .i64 (membOf M C nb : Nat), .int .i64 p0] 89)) w2.heap.size #[.int .i64 t0, .int .i64 (rowOf M C nb : Nat), .int .i64 (membOf M C nb : Nat), .int .i64 p0] 89) := At.new _ _ _
             have hpb2:wr.heap.size≤w2.heap.size:=HB52.out.size
             have HB72:=Lib.hid HB5A2.out
             clear HB5A2 HB5Z2 HB52
             generalize w2.alloc (.cells #[.int .i64 t0,.int .i64 (rowOf M C nb:Nat),.int .i64 (membOf M C nb:Nat),.int .i64 p0] 89)=V2 at*
             generalize w2.heap.size=pb2 at*)
        all_goals
          obtain⟨-,-,-,z0,z1⟩:=HSS.out _ HB72.out
          rw[hnb]at z0
          have hpl2:pb<V2.heap.size:=Nat.lt_of_lt_of_le hplt HB72.out.size
          by_cases hln:(us[i]'hil).2.length=128
          · have hlb:(((us[i]'hil).2.length:Int)==128)=true:=by rw[hln];rfl
            have hup:(us.getD i put0).1=(nb:Int):=by rw[getD_put us i hil];exact hnb
            have HUP:=Lib.hid hup
            have HVI:Hid (∀j (hj:j<us.length),j<i+1->thereIs M C S (us[j]'hj).1/\(us[j]'hj).2.length=128):=fun j hj h=>by
              by_cases e:j=i
              · subst e
                exact⟨ht,hln⟩
              · exact HVA.out j hj (by omega)
            clear HSS HS2 hup
            generalize (us[i]'hil).2.length=dl at*
            generalize hrb:rowOf M C nb=rb at*
            go_wp2
            obtain⟨wo,rfl⟩:∃wo:World,wo=wr:=⟨_,rfl⟩
            go_loopw [9,10,11] (fun bl ln q wr=>∃k:Nat,k≤i/\q=.int .i64 k/\bl=.bool (newB us i k)/\ln=.bool (newR M C us i k)/\Below V2.heap.size V2 wr) (fun _ _ q _=>i-(intOf q).toNat)
            case atStart=>exact⟨0,by omega,rfl,rfl,rfl,Below.refl _ _⟩
            case round=>
              obtain⟨k,hk,rfl,rfl,rfl,hbx⟩:=hrel;have HBX:=Lib.hid hbx;have HBW:Hid (Below wo.heap.size wo wr):=HB72.out.trans (hbx.mono HB72.out.size);have HBT:Hid (Below (w.alloc (.cells #[.int .i64 M,.int .i64 C,.int .i64 S,.int .i64 ring,.bool lazy,.int .i64 more] 25)).heap.size (w.alloc (.cells #[.int .i64 M,.int .i64 C,.int .i64 S,.int .i64 ring,.bool lazy,.int .i64 more] 25)) wr):=HBE.out.trans (HBW.out.mono HBE.out.size);by_cases hki:k<i
              · have K2:Hid (k+1≤i):=hki
                obtain⟨nk,hnk,hnkl⟩:=there_nat (HVA.out k (by omega) hki).1 HGE.out;have HOB3:=Lib.hid (HOF.out nk hnkl);have hx0:=(HPX.out k (by omega)).1;rw[hnk]at hx0;have hpx2:=hbx.size;have hbi:wr.cell? ⟨pb,po+i*2,none⟩=some (.int .i64 nb):=(hbx.cell (p:=⟨pb,po+i*2,none⟩) hpl2).trans z0;have hbk:wr.cell? ⟨pb,po+k*2,none⟩=some (.int .i64 nk):=(HBW.out.cell (p:=⟨pb,po+k*2,none⟩) hplt).trans hx0;have ha:=HA0.out.below HBT.out hl0;have hp5:=HP52.out.below hbx HP52.out.lt;have HS3:Hid (∀X,Below wr.heap.size wr X->X.cell? ⟨w.heap.size,0,none⟩=some (.int .i64 M)/\X.cell? ⟨w.heap.size,1,none⟩=some (.int .i64 C)/\X.cell? ⟨w.heap.size,2,none⟩=some (.int .i64 S)/\X.cell? ⟨pb,po+k*2,none⟩=some (.int .i64 nk)):=fun X hX=>⟨(ha.below hX ha.lt).cell 0,(ha.below hX ha.lt).cell 1,(ha.below hX ha.lt).cell 2,(hX.cell (p:=⟨pb,po+k*2,none⟩) (by show pb<_;omega)).trans hbk⟩
                have HS4:Hid (∀X,Below wr.heap.size wr X->X.cell? ⟨pb,po+k*2,none⟩=some (.int .i64 nk)/\X.cell? ⟨pb,po+i*2,none⟩=some (.int .i64 nb)/\X.cell? ⟨pb2,1,none⟩=some (.int .i64 (rb:Nat))/\pb<X.heap.size/\pb2<X.heap.size):=fun X hX=>⟨(hX.cell (p:=⟨pb,po+k*2,none⟩) (by show pb<_;omega)).trans hbk,(hX.cell (p:=⟨pb,po+i*2,none⟩) (by show pb<_;omega)).trans hbi,(hp5.below hX hp5.lt).cell 1,by have:=hX.size;omega,Nat.lt_of_lt_of_le hp5.lt hX.size⟩
                have HNB:Hid (newB us i (k+1)=(newB us i k&&((nk:Int) !=(nb:Int)))):=by
                  show(newB us i k&&decide ((us.getD k put0).1≠(us.getD i put0).1))=_
                  rw[HUP.out,getD_put us k (by omega),hnk];congr 1;by_cases e:(nk:Int)=nb
                  · simp[e]
                  · simp[e]
                have HNR:Hid (newR M C us i (k+1)=(newR M C us i k&&(((rowOf M C nk:Nat):Int) !=((rb:Nat):Int)))):=by
                  show(newR M C us i k&&decide (rowOf M C (us.getD k put0).1.toNat≠rowOf M C (us.getD i put0).1.toNat))=_
                  rw[HUP.out,getD_put us k (by omega),hnk,Int.toNat_natCast,Int.toNat_natCast,hrb];congr 1;by_cases e:rowOf M C nk=rb
                  · simp[e]
                  · have:¬((rowOf M C nk:Nat):Int)=(rb:Int):=fun h=>e (by exact_mod_cast h)
                    simp[e,this]
                clear ha hp5 hbi hbk hx0 z0 z1;generalize rowOf M C nk=rk at*;generalize membOf M C nk=mk at*;have hI1:(0:Int)≤(k:Int):=by omega
                have hI2:(k:Int)<(us.length:Int):=by omega
                have hI3:(0:Int)≤(i:Int):=by omega
                have hI4:(i:Int)<(us.length:Int):=by omega
                go_wp2;have HID3:=Lib.hid (Below.refl wr.heap.size wr);have HDR3:Hid (Below wr.heap.size wr wr.drew):=(Below.refl _ _).drew;have HAL3:Hid (Below wr.heap.size wr (wr.alloc (.cells #[.int .i64 0,.int .i64 0,.int .i64 0,.int .i64 0] 89))):=(Below.refl _ _).alloc (Nat.le_refl _) _;have HALD3:Hid (Below wr.heap.size wr (wr.alloc (.cells #[.int .i64 0,.int .i64 0,.int .i64 0,.int .i64 0] 89)).drew):=HAL3.out.drew;go_region_held3 (fun w'=>w'.cell? ⟨w.heap.size,0,none⟩=some (.int .i64 M)/\w'.cell? ⟨w.heap.size,1,none⟩=some (.int .i64 C)/\w'.cell? ⟨w.heap.size,2,none⟩=some (.int .i64 S)/\w'.cell? ⟨pb,po+k*2,none⟩=some (.int .i64 nk))
                  (first|with_reducible exact HS3.out _ HID3.out|with_reducible exact HS3.out _ HDR3.out|with_reducible exact HS3.out _ HB53.out|with_reducible exact HS3.out _ HB5A3.out|with_reducible exact HS3.out _ HB5Z3.out|with_reducible exact HS3.out _ HAL3.out|with_reducible exact HS3.out _ HALD3.out|with_reducible exact HS3.out _ HB63.out)
                  (first
                    |(go_at_call 60;(with_reducible refine(HOB3.out wr.drew).mono ?_);rintro e w3 ⟨⟨t1,p1,rfl⟩,hb4⟩;have HB53:=Lib.hid ((Below.refl wr.heap.size wr).drew.trans hb4);have HB5A3:=Lib.hid (HB53.out.alloc HB53.out.size (.cells #[.int .i64 t1,.int .i64 (rk:Nat),.int .i64 (mk:Nat),.int .i64 p1] 89));have HB5Z3:=Lib.hid (HB53.out.alloc HB53.out.size (.cells #[.int .i64 0,.int .i64 0,.int .i64 0,.int .i64 0] 89));clear hb4)
                    |(go_at_call 60;(with_reducible refine(HOB3.out (wr.alloc (.cells #[.int .i64 0,.int .i64 0,.int .i64 0,.int .i64 0] 89)).drew).mono ?_);rintro e w3 ⟨⟨t1,p1,rfl⟩,hb4⟩;have HB53:Hid (Below wr.heap.size wr w3):=HALD3.out.trans (hb4.mono (by show wr.heap.size≤(wr.alloc _).heap.size;rw[size_alloc];omega));have hP4:At w3 wr.heap.size #[.int .i64 0,.int .i64 0,.int .i64 0,.int .i64 0] 89:=(At.new wr _ _).drew.below hb4 (by show wr.heap.size<(wr.alloc _).heap.size;rw[size_alloc];omega);have d0:=hP4.cell 0;have f0:=hP4.free 0;have d1:=hP4.cell 1;have f1:=hP4.free 1;have d2:=hP4.cell 2;have f2:=hP4.free 2;have d3:=hP4.cell 3;have f3:=hP4.free 3;have HP43:=Lib.hid hP4;have HB63:=Lib.hid (((((HB53.out.setCell (p:=⟨wr.heap.size,0,none⟩) (Nat.le_refl _) (.int .i64 t1)).setCell (p:=⟨wr.heap.size,1,none⟩) (Nat.le_refl _) (.int .i64 (rk:Nat))).setCell (p:=⟨wr.heap.size,2,none⟩) (Nat.le_refl _) (.int .i64 (mk:Nat))).setCell (p:=⟨wr.heap.size,3,none⟩) (Nat.le_refl _) (.int .i64 p1)));clear hb4 hP4))
                all_goals first
                  | (have HP53 : Hid (At ((((w3.setCell ⟨wr.heap.size, 0, none⟩ (.int .i64 t1)).setCell ⟨wr.heap.size, 1, none⟩ (.int .i64 (rk : Nat))).setCell ⟨wr.heap.size, 2, none⟩ (.int .i64 (mk : Nat))).setCell ⟨wr.heap.size, 3, none⟩ (.int .i64 p1)) wr.heap.size #[.int .i64 t1, .int .i64 (rk : Nat), .int .i64 (mk : Nat), .int .i64 p1] 89) := ((((HP43.out.set 0 (.int .i64 t1)).set 1 (.int .i64 (rk : Nat))).set 2 (.int .i64 (mk : Nat))).set 3 (.int .i64 p1))
                     have HB73:=Lib.hid HB63.out
                     clear HB63 HP43 HB53 d0 d1 d2 d3 f0 f1 f2 f3
                     generalize ((((w3.setCell ⟨wr.heap.size,0,none⟩ (.int .i64 t1)).setCell ⟨wr.heap.size,1,none⟩ (.int .i64 (rk:Nat))).setCell ⟨wr.heap.size,2,none⟩ (.int .i64 (mk:Nat))).setCell ⟨wr.heap.size,3,none⟩ (.int .i64 p1))=V3 at*
                     obtain⟨pb3,hpb0⟩:∃pb3,pb3=wr.heap.size:=⟨_,rfl⟩
                     have hpb3:wr.heap.size≤pb3:=by omega
                     rw[<-hpb0]at HP53 ⊢
                     clear hpb0)
                  | (have HP53 : Hid (At (w3.alloc (.cells #[.int .i64 t1, .int .i64 (rk : Nat), .int .i64 (mk : Nat), .int .i64 p1] 89)) w3.heap.size #[.int .i64 t1, .int .i64 (rk : Nat), .int .i64 (mk : Nat), .int .i64 p1] 89) := At.new _ _ _
                     have hpb3:wr.heap.size≤w3.heap.size:=HB53.out.size
                     have HB73:=Lib.hid HB5A3.out
                     clear HB5A3 HB5Z3 HB53
                     generalize w3.alloc (.cells #[.int .i64 t1,.int .i64 (rk:Nat),.int .i64 (mk:Nat),.int .i64 p1] 89)=V3 at*
                     generalize w3.heap.size=pb3 at*)
                all_goals
                  obtain⟨a1,a2,a3,a4,a5⟩:=HS4.out _ HB73.out
                  have HB8:Hid (Below V2.heap.size V2 V3):=HBX.out.trans (HB73.out.mono HBX.out.size)
                  have a6:=HP53.out.cell 1
                  have a7:=HP53.out.lt
                  clear HS3 HS4 HOB3 HP53 hpb3
                  go_wp2
                all_goals
                  cases hB:newB us i k<;>cases hR:newR M C us i k
                  all_goals
                    rw[hB,Bool.and_comm]at HNB
                    rw[hR,Bool.and_comm]at HNR
                    go_quiet (fail)
                    go_wp2
                    exact⟨⟨k+1,K2.out,by go_num,by rw[HNB.out];first|rfl|simp,by rw[HNR.out];first|rfl|simp,below_drewN HB8.out _⟩,by simp[intOf];omega⟩
              · obtain rfl:k=i:=by omega
                have HNT:Hid (newTo M C us (k+1)=newTo M C us k+(if newB us k k=true then 1 else 0)+(if newR M C us k k=true then 1 else 0)):=rfl;cases hB:newB us k k<;>cases hR:newR M C us k k
                all_goals
                  rw[hB,hR]at HNT
                  go_wp2
                  exact⟨⟨k+1,K1.out,by go_num,by rw[HNT.out];simp,HVI.out,HBT.out⟩,by simp[intOf];omega⟩
          · have HD:Hid (dw=false):=HBAD.out (fun ok=>hln (ok.len _ (List.getElem_mem hil)))
            have hlb:(((us[i]'hil).2.length:Int)==128)=false:=beq_eq_false_iff_ne.2 (by omega)
            clear HSS HBAD HGD hDW HS2
            generalize (us[i]'hil).2.length=dl at*
            go_wp2
            go_ret
            exact⟨by rw[HD.out];rfl,below_then HB0.out (HBE.out.trans (HB72.out.mono HBE.out.size))⟩
      · have HNB:=Lib.hid (HNO.out _ ht)
        have HD:Hid (dw=false):=HBAD.out (fun ok=>ht (ok.there _ (List.getElem_mem hil)));have HS1:Hid (∀X,Below wr.heap.size wr X->X.cell? ⟨w.heap.size,0,none⟩=some (.int .i64 M)/\X.cell? ⟨w.heap.size,1,none⟩=some (.int .i64 C)/\X.cell? ⟨w.heap.size,2,none⟩=some (.int .i64 S)/\X.cell? ⟨pb,po+i*2,none⟩=some (.int .i64 (us[i]'hil).1)):=fun X hX=>⟨(HSS.out X hX).1,(HSS.out X hX).2.1,(HSS.out X hX).2.2.1,(HSS.out X hX).2.2.2.1⟩
        clear HSS HBAD HGD hDW;generalize (us[i]'hil).1=bk at*;go_wp2;have HID1:=Lib.hid (Below.refl wr.heap.size wr);have HDR1:Hid (Below wr.heap.size wr wr.drew):=(Below.refl _ _).drew;have HAL1:Hid (Below wr.heap.size wr (wr.alloc (.cells #[.int .i64 0,.int .i64 0,.int .i64 0,.int .i64 0] 89))):=(Below.refl _ _).alloc (Nat.le_refl _) _;have HALD1:Hid (Below wr.heap.size wr (wr.alloc (.cells #[.int .i64 0,.int .i64 0,.int .i64 0,.int .i64 0] 89)).drew):=HAL1.out.drew;go_region_held3 (fun w'=>w'.cell? ⟨w.heap.size,0,none⟩=some (.int .i64 M)/\w'.cell? ⟨w.heap.size,1,none⟩=some (.int .i64 C)/\w'.cell? ⟨w.heap.size,2,none⟩=some (.int .i64 S)/\w'.cell? ⟨pb,po+i*2,none⟩=some (.int .i64 bk))
          (first|with_reducible exact HS1.out _ HID1.out|with_reducible exact HS1.out _ HDR1.out|with_reducible exact HS1.out _ HB51.out|with_reducible exact HS1.out _ HB5A1.out|with_reducible exact HS1.out _ HB5Z1.out|with_reducible exact HS1.out _ HAL1.out|with_reducible exact HS1.out _ HALD1.out|with_reducible exact HS1.out _ HB61.out)
          (first
            |(go_at_call 60;(with_reducible refine(HNB.out wr.drew).mono ?_);rintro e w1 ⟨⟨t0,r0,m0,p0,rfl⟩,hb4⟩;have HB51:=Lib.hid ((Below.refl wr.heap.size wr).drew.trans hb4);have HB5A1:=Lib.hid (HB51.out.alloc HB51.out.size (.cells #[.int .i64 t0,.int .i64 r0,.int .i64 m0,.int .i64 p0] 89));have HB5Z1:=Lib.hid (HB51.out.alloc HB51.out.size (.cells #[.int .i64 0,.int .i64 0,.int .i64 0,.int .i64 0] 89));clear hb4)
            |(go_at_call 60;(with_reducible refine(HNB.out (wr.alloc (.cells #[.int .i64 0,.int .i64 0,.int .i64 0,.int .i64 0] 89)).drew).mono ?_);rintro e w1 ⟨⟨t0,r0,m0,p0,rfl⟩,hb4⟩;have HB51:Hid (Below wr.heap.size wr w1):=HALD1.out.trans (hb4.mono (by show wr.heap.size≤(wr.alloc _).heap.size;rw[size_alloc];omega));have hP4:At w1 wr.heap.size #[.int .i64 0,.int .i64 0,.int .i64 0,.int .i64 0] 89:=(At.new wr _ _).drew.below hb4 (by show wr.heap.size<(wr.alloc _).heap.size;rw[size_alloc];omega);have d0:=hP4.cell 0;have f0:=hP4.free 0;have d1:=hP4.cell 1;have f1:=hP4.free 1;have d2:=hP4.cell 2;have f2:=hP4.free 2;have d3:=hP4.cell 3;have f3:=hP4.free 3;have HP41:=Lib.hid hP4;have HB61:=Lib.hid (((((HB51.out.setCell (p:=⟨wr.heap.size,0,none⟩) (Nat.le_refl _) (.int .i64 t0)).setCell (p:=⟨wr.heap.size,1,none⟩) (Nat.le_refl _) (.int .i64 r0)).setCell (p:=⟨wr.heap.size,2,none⟩) (Nat.le_refl _) (.int .i64 m0)).setCell (p:=⟨wr.heap.size,3,none⟩) (Nat.le_refl _) (.int .i64 p0)));clear hb4 hP4))
        all_goals first
          | (have HP51 : Hid (At ((((w1.setCell ⟨wr.heap.size, 0, none⟩ (.int .i64 t0)).setCell ⟨wr.heap.size, 1, none⟩ (.int .i64 r0)).setCell ⟨wr.heap.size, 2, none⟩ (.int .i64 m0)).setCell ⟨wr.heap.size, 3, none⟩ (.int .i64 p0)) wr.heap.size #[.int .i64 t0, .int .i64 r0, .int .i64 m0, .int .i64 p0] 89) := ((((HP41.out.set 0 (.int .i64 t0)).set 1 (.int .i64 r0)).set 2 (.int .i64 m0)).set 3 (.int .i64 p0))
             have HB71:=Lib.hid HB61.out
             clear HB61 HP41 HB51 d0 d1 d2 d3 f0 f1 f2 f3
             generalize ((((w1.setCell ⟨wr.heap.size,0,none⟩ (.int .i64 t0)).setCell ⟨wr.heap.size,1,none⟩ (.int .i64 r0)).setCell ⟨wr.heap.size,2,none⟩ (.int .i64 m0)).setCell ⟨wr.heap.size,3,none⟩ (.int .i64 p0))=V1 at*
             obtain⟨pb1,hpb0⟩:∃pb1,pb1=wr.heap.size:=⟨_,rfl⟩
             have hpb1:wr.heap.size≤pb1:=by omega
             rw[<-hpb0]at HP51 ⊢
             clear hpb0)
          | (have HP51 : Hid (At (w1.alloc (.cells #[.int .i64 t0, .int .i64 r0, .int .i64 m0, .int .i64 p0] 89)) w1.heap.size #[.int .i64 t0, .int .i64 r0, .int .i64 m0, .int .i64 p0] 89) := At.new _ _ _
             have hpb1:wr.heap.size≤w1.heap.size:=HB51.out.size
             have HB71:=Lib.hid HB5A1.out
             clear HB5A1 HB5Z1 HB51
             generalize w1.alloc (.cells #[.int .i64 t0,.int .i64 r0,.int .i64 m0,.int .i64 p0] 89)=V1 at*
             generalize w1.heap.size=pb1 at*)
        all_goals
          go_wp2
          go_ret
          exact⟨by rw[HD.out];rfl,below_then HB0.out (HBE.out.trans (HB71.out.mono HBE.out.size))⟩
    · obtain rfl:i=us.length:=by omega
      have HD:Hid (dw=decide ((2*newTo M C us us.length+1:Int)≤(ring:Int))):=by
        refine HGD.out ⟨HGE.out,by omega,fun u hu=> ?_,fun u hu=> ?_⟩
        · obtain⟨j,hj,rfl⟩:=List.getElem_of_mem hu
          exact(HVA.out j hj hj).1
        · obtain⟨j,hj,rfl⟩:=List.getElem_of_mem hu
          exact(HVA.out j hj hj).2
      have ha:=HA0.out.below hbel hl0;have c3:=ha.cell 3;have hlr:=ha.lt;clear ha;go_wp2;go_ret;exact⟨by rw[HD.out];rfl,below_then HB0.out HBE.out⟩
open Go.RowKit
theorem blocks_nat {M C S:Nat} (hg:geoIs M C S=true):(S:Int)*C*((M:Int)-1)=((S*C*(M-1):Nat):Int):=by
  have:=(geo_pos hg).1;rw[Int.natCast_mul,Int.natCast_mul,Int.natCast_sub (by omega)];rfl
theorem blocks_few' {M C S:Nat} (hg:geoIs M C S=true):S*C*(M-1)≤61440:=by
  obtain⟨h1,h2,h3,h4⟩:=geo_pos hg;exact Nat.mul_le_mul h4 (by omega:M-1≤15)
theorem flat_zero (M C:Nat):∀n,flatD (blkOf M C zeroV) n=List.replicate (128*n) 0
  |0=>rfl
  |n+1=>by
    rw[flatD_succ,flat_zero M C n,show blkOf M C zeroV n=List.replicate 128 0 from rfl,List.replicate_append_replicate];rfl
theorem ucells_zeros (n:Nat):ucells (List.replicate n 0)=List.replicate n (.int .u8 0):=by
  unfold ucells;rw[List.map_replicate];rfl
theorem flat_mid {D:Nat->Sec} {b:Nat}:∀{n:Nat},b<n->(∀k,k<n->(D k).length=128)->∀j (hj:j<128),(flatD D n)[128*b+j]?=(D b)[j]?
  |0,h,_,_,_=>absurd h (by omega)
  |n+1,h,hl,j,hj=>by
    have h1:(flatD D n).length=128*n:=flatD_length fun k hk=>hl k (by omega)
    rw[flatD_succ];by_cases e:b=n
    · subst e
      rw[List.getElem?_append_right (by omega),h1];congr 1;omega
    · rw[List.getElem?_append_left (by omega)]
      exact flat_mid (by omega) (fun k hk=>hl k (by omega)) j hj
theorem seg_mid {w:World} {g o cap:Nat} {D:Nat->Sec} {b n:Nat} (h:Seg w (.slice (some ⟨g,o,none⟩) (128*n) cap) (flatD D n)) (hb:b<n) (hl:∀k,k<n->(D k).length=128) (c:Nat) (hc:128≤c):Seg w (.slice (some ⟨g,o+128*b,none⟩) 128 c) (D b):=by
  have h1:(flatD D n).length=128*n:=flatD_length hl;have hd:=hl b hb;obtain⟨b',off,cap',hv,hlt,hx⟩:=h.full (by omega);simp only [Value.slice.injEq,Option.some.injEq,Addr.mk.injEq,and_true]at hv;obtain⟨⟨rfl,rfl⟩,-,-⟩:=hv;refine⟨_,c,by rw[hd],⟨fun e=>(by cases e),(by omega)⟩,.inr ⟨g,o+128*b,rfl,hlt,fun j hj=> ?_⟩⟩;have hj':j<128:=by omega
  have e1:=flat_mid hb hl j hj';rw[List.getElem?_eq_getElem (by omega),List.getElem?_eq_getElem hj]at e1;have e2:=hx (128*b+j) (by omega);rw[Option.some.inj e1,<-Nat.add_assoc]at e2;exact e2
theorem RnAt.below {w0 W W':World} {T:Nat->Nat} {A:Adr} {R:RS} {V:Nat->Nat->Sec} {M C S ring:Nat} {lazy:Bool} {a b:Nat} (h:RnAt w0 W T A R V M C S ring lazy a b) (hb:Below W.heap.size W W'):RnAt w0 W' T A R V M C S ring lazy a b:=
  ⟨h.at'.below hb,h.bud,h.M,h.C,h.S,h.size,h.lazy⟩
structure TlAt (w0 W:World) (T:Nat->Nat) (A:Adr) (R:RS) (V:Nat->Nat->Sec) (M C S ring:Nat) (lazy:Bool) (a b:Nat) (al:Value):Prop where
  run:RnAt w0 W T A R V M C S ring lazy a b
  row:ByteRow W T al (allOf R V)
theorem TlAt.below {w0 W W':World} {T:Nat->Nat} {A:Adr} {R:RS} {V:Nat->Nat->Sec} {M C S ring:Nat} {lazy:Bool} {a b:Nat} {al:Value} (h:TlAt w0 W T A R V M C S ring lazy a b al) (hb:Below W.heap.size W W'):TlAt w0 W' T A R V M C S ring lazy a b al:=
  ⟨h.run.below hb,h.row.below hb⟩
theorem TlAt.mono {w0 W:World} {T:Nat->Nat} {A:Adr} {R:RS} {V:Nat->Nat->Sec} {M C S ring:Nat} {lazy:Bool} {a b a' b':Nat} {al:Value} (h:TlAt w0 W T A R V M C S ring lazy a b al) (ha:a≤a') (hb:b≤b'):TlAt w0 W T A R V M C S ring lazy a' b' al:=
  ⟨⟨h.run.at',h.run.bud.mono ha hb,h.run.M,h.run.C,h.run.S,h.run.size,h.run.lazy⟩,h.row⟩
theorem TlAt.step {w0 W W':World} {T T':Nat->Nat} {A:Adr} {R R':RS} {V:Nat->Nat->Sec} {M C S ring:Nat} {lazy:Bool} {a b a' b':Nat} {al:Value} (h:TlAt w0 W T A R V M C S ring lazy a b al) (hl:LAt w0 W' T' A R' V) (hs:Stp W T A W' T') (hb:Bud R' a' b') (s:Same R R'):TlAt w0 W' T' A R' V M C S ring lazy a' b' al:=
  ⟨h.run.mk' hl hb s,by rw[allOf_same V s];exact h.run.at'.bytes hs h.row⟩
theorem tl_start {w0 w3 w4 w5:World} {T:Nat->Nat} {A:Adr} {R:RS} {M C S ring:Nat} {lazy:Bool} {a b:Nat} (h:RnAt w0 w3 T A R zeroV M C S ring lazy a b) (h4:Below w3.heap.size w3 w4) (h5:Below w4.heap.size w4 w5) (ha:At w5 w4.heap.size (List.replicate (128*(S*C*(M-1))*1) (Value.int .u8 0)).toArray 5) (hf:S*C*(M-1)≤61440):
    TlAt w0 w5 T A R zeroV M C S ring lazy a b (.slice (some ⟨w4.heap.size,0,none⟩) (128*(S*C*(M-1))) (128*(S*C*(M-1)))):=by
  have hbl:R.blocks=S*C*(M-1):=by unfold RS.blocks;rw[h.M,h.C,h.S]
  have hal:allOf R zeroV=List.replicate (128*(S*C*(M-1))) 0:=by
    unfold allOf;rw[flat_zero,hbl]
  refine⟨h.below (h4.trans (h5.mono h4.size)),?_⟩;refine ByteRow.new (B:=w4.heap.size) ?_ h.at' h4.size;rw[hal,ucells_zeros,List.length_replicate];rw[Nat.mul_one]at ha;exact cells_row ha (Nat.le_refl _) (by simp) (Nat.le_refl _) (by omega) (by simp)
theorem TlAt.laid {w0 W:World} {T:Nat->Nat} {A:Adr} {R':RS} {V':Nat->Nat->Sec} {M C S ring:Nat} {lazy:Bool} {a b B:Nat} {al:Value} {D:Nat->Sec} (h:RnAt w0 W T A R' V' M C S ring lazy a b) (hB:W.heap.size≤B) {W':World} (hb:Below W.heap.size W W') (ho:W'.ownsRow B 5 1 al (128*(S*C*(M-1))) (ucells (flatD D (S*C*(M-1))))) (hd:∀k,k<S*C*(M-1)->blkOf M C V' k=D k):TlAt w0 W' T A R' V' M C S ring lazy a b al:=by
  have hbl:R'.blocks=S*C*(M-1):=by unfold RS.blocks;rw[h.M,h.C,h.S]
  have hal:allOf R' V'=flatD D (S*C*(M-1)):=by
    unfold allOf;rw[hbl,h.M,h.C];exact flatD_congr hd
  have hln:=allOf_length h.at'.good;rw[hbl]at hln;refine⟨h.below hb,ByteRow.new (B:=B) ?_ h.at' hB⟩;rw[hln,hal];exact ho
theorem tl_us {w0 W:World} {T:Nat->Nat} {A:Adr} {R:RS} {V:Nat->Nat->Sec} {M C S ring:Nat} {lazy:Bool} {a b:Nat} {al:Value} (h:TlAt w0 W T A R V M C S ring lazy a b al):((R.used:Nat):Int)≤((R.size:Nat):Int):=by
  have:=h.run.at'.good.jrn.us;omega
theorem TlAt.nowait {w0 W:World} {T:Nat->Nat} {A:Adr} {R:RS} {V:Nat->Nat->Sec} {M C S ring:Nat} {a b:Nat} {al:Value} (h:TlAt w0 W T A R V M C S ring false a b al):R.wait= []:=by
  rcases h.run.at'.idle with e|e
  · rw[h.run.lazy]at e
    cases e
  · exact e
theorem l_used0 {w0 W:World} {T:Nat->Nat} {A:Adr} {R:RS} {V:Nat->Nat->Sec} (h:LAt w0 W T A R V) (hu:R.used=0):
    Calls Tryz.prog 22 #[.pointer (some ⟨A.wp,0,none⟩)] W fun e w'=>e=.returned (.int .i64 0)/\w'=W:=by
  have:=l_used h;rw[hu]at this;exact this
theorem tl_write_ok {w0 W:World} {T:Nat->Nat} {A:Adr} {R:RS} {V:Nat->Nat->Sec} {M C S ring:Nat} {lazy:Bool} {a b:Nat} {al:Value} (h:TlAt w0 W T A R V M C S ring lazy a b al) (hin:Within a b) (pv:Value) (us:List (Int×List UInt8)) (hp:PutSeg w0 pv us) (hc:wcode M C S ring us=0):
    Calls Tryz.prog 16 #[.pointer (some ⟨A.q,0,none⟩),pv] W fun e w'=>e=.returned (.agg #[.int .i64 0,.int .u16 0])/\∃T' R' V',RnAt w0 w' T' A R' V' M C S ring lazy (a+1000000) (b+8*us.length+4)/\Stp W T A w' T'/\ByteRow w' T' al (flatD (blkOf M C V) (S*C*(M-1)))/\(∀k,k<S*C*(M-1)->(blkOf M C V k).length=128)/\∀k,k<S*C*(M-1)->blkOf M C V' k=layK (blkOf M C V) us us.length k:=by
  refine(l_write h.run.at' h.run.bud hin pv us hp).mono ?_;rintro e w' ⟨rfl,T',R',V',h1,h2,h3,h4,h5⟩;have hM:=h.run.M;have hC:=h.run.C;have hS:=h.run.S;have hz:=h.run.size;rw[hM,hC,hS,hz]at h5 ⊢;have hbr:=h.run.at'.bytes h2 h.row;have hal:allOf R V=flatD (blkOf M C V) (S*C*(M-1)):=by unfold allOf RS.blocks;rw[hM,hC,hS]
  rw[hal]at hbr;refine⟨by rw[hc];rfl,T',R',V',h.run.mk' h1 h3 h4,h2,hbr,fun k hk=> ?_,fun k hk=> ?_⟩
  · have:=blk_len h.run.at'.good (k:=k) (by rw[hM,hC,hS];exact hk)
    rw[hM,hC]at this;exact this
  · have:=h5 k hk
    unfold wLaid at this;rw[if_pos hc]at this;exact this
theorem tl_write_no {w0 W:World} {T:Nat->Nat} {A:Adr} {R:RS} {V:Nat->Nat->Sec} {M C S ring:Nat} {lazy:Bool} {a b:Nat} {al:Value} (h:TlAt w0 W T A R V M C S ring lazy a b al) (hin:Within a b) (pv:Value) (us:List (Int×List UInt8)) (hp:PutSeg w0 pv us) (hc:wcode M C S ring us≠0):
    Calls Tryz.prog 16 #[.pointer (some ⟨A.q,0,none⟩),pv] W fun e w'=>e=.returned (.agg #[.int .i64 0,.int .u16 (wcode M C S ring us:Nat)])/\∃T' R' V',TlAt w0 w' T' A R' V' M C S ring lazy (a+1000000) (b+8*us.length+4) al/\Stp W T A w' T':=by
  refine(l_write h.run.at' h.run.bud hin pv us hp).mono ?_;rintro e w' ⟨rfl,T',R',V',h1,h2,h3,h4,h5⟩;have hM:=h.run.M;have hC:=h.run.C;have hS:=h.run.S;have hz:=h.run.size;rw[hM,hC,hS,hz]at h5 ⊢;refine⟨rfl,T',R',V',⟨h.run.mk' h1 h3 h4,?_⟩,h2⟩;have hbr:=h.run.at'.bytes h2 h.row;have hal:allOf R' V'=allOf R V:=by
    have hg:=h.run.geo h4;unfold allOf RS.blocks;rw[hM,hC,hS,hg.1,hg.2.1,hg.2.2.1];refine flatD_congr fun k hk=> ?_
    have:=h5 k hk;unfold wLaid at this;rw[if_neg hc]at this;exact this
  rw[hal];exact hbr
theorem wcode_batch {M C S size:Nat} {us:List (Int×List UInt8)} (h:wcode M C S size us=0):BatchOk M C S us:=by
  by_cases hb:BatchOk M C S us
  · exact hb
  · have:=wcode_bad (size:=size) hb
    rw[h]at this;cases this
end Go.Proofs.YtebmephdnjccjaaGreat
