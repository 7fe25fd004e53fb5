/- Parts of the proof, merged: Us18, ProgOk2, Node4, Node5. -/
import Derived.Test.YtkikkfjmggobpaaGreatDt25
namespace Go.Proofs.YtkikkfjmggobpaaGreat
open Go.RowKit
set_option maxRecDepth 100000
set_option maxHeartbeats 16000000
set_option linter.unusedVariables false
set_option linter.unusedSimpArgs false
attribute [local go_sem] Ext.cell
def Earlier (Ts:List GType) (t c:Nat) (nm:ByteArray):Prop:=∃ (i j:Nat) (ti:GType) (ci:GCon),Ts[i]? = some ti/\ti.cons[j]? = some ci/\ci.name=nm/\(i<t\/(i=t/\j<c))
theorem l06Earlier_c (Ts:List GType) (t c:Nat) (tt:GType) (ct:GCon) (htt:Ts[t]? = some tt) (hct:tt.cons[c]? = some ct) (tv nv:Value) (hnv:∃a n c,nv=.slice a n c) (w:World) (hT:Sl GType.R 3 0 w tv Ts) (hTl:Ts.length<=1000000) (hC:∀x∈Ts,x.cons.length<=1000000) :
  Calls Tryz.prog 47 #[.agg #[tv,nv],.int .i64 (t:Nat),.int .i64 (c:Nat)] w fun e w'=>(∃r:Bool,e=.returned (.bool r)/\(r=true ↔ Earlier Ts t c ct.name))/\Below w.heap.size w w':=by
 obtain⟨na,nn,nc,rfl⟩:=hnv
 obtain⟨ta,tc,rfl,tl,tm,t0⟩:=hT
 have htl:=(List.getElem?_eq_some_iff.1 htt).1
 have hcl:=(List.getElem?_eq_some_iff.1 hct).1
 have hCt:=hC tt (List.mem_of_getElem? htt)
 obtain⟨tn,hn⟩ : ∃n,n=Ts.length:=⟨_,rfl⟩
 obtain⟨kn,hkn⟩ : ∃n,n=tt.cons.length:=⟨_,rfl⟩
 rw[<- hn]at tl hTl htl ⊢
 rw[<- hkn]at hcl hCt
 have tK:∀W,Below w.heap.size w W->SlAt GType.R 3 0 W ta Ts:=fun W hW=>t0.below GType.good hW
 obtain⟨nm,hnm⟩ : ∃q,q=ct.name:=⟨_,rfl⟩
 rw[<- hnm]
 have hyes:∀ (i j:Nat) ti ci,Ts[i]? = some ti->ti.cons[j]? = some ci->i<=t->ci.name=nm->(i<t\/j<c)->Earlier Ts t c nm:=fun i j ti ci a1 a2 a5 a3 a4=>⟨i,j,ti,ci,a1,a2,a3,by omega⟩
 have hno:(∀i,i<t+1->∀ (j:Nat) ti ci,Ts[i]? = some ti->ti.cons[j]? = some ci->¬ (ci.name=nm/\(i<t\/j<c)))->¬ Earlier Ts t c nm:=fun h ⟨i,j,ti,ci,a1,a2,a3,a4⟩=>h i (by omega) j ti ci a1 a2 ⟨a3,by omega⟩
 generalize Earlier Ts t c nm=Q at *
 clear t0
 replace tK:=kH tK;replace hn:=kH hn;replace hyes:=kH hyes;replace hno:=kH hno;replace hkn:=kH hkn;replace htt:=kH htt;replace hct:=kH hct;replace hC:=kH hC;replace hnm:=kH hnm
 go_enter Tryz.func47,Tryz.ntmps47
 go_upto_region 1 with fail
 have B:RowAt (w.alloc (.cells #[.slice ta tn tc,.slice na nn nc] 39)) (w.heap.size) 0 [.slice ta tn tc,.slice na nn nc]:=RowAt.box w #[.slice ta tn tc,.slice na nn nc] 39
 have hw:Below w.heap.size w (w.alloc (.cells #[.slice ta tn tc,.slice na nn nc] 39)):=by go_grown
 generalize (w.alloc (.cells #[.slice ta tn tc,.slice na nn nc] 39))=w0 at *
 obtain⟨b_0,b_1⟩:=B.box2;have hsB:=bLt b_0
 obtain⟨b1,o1,x,r1,_,rfl,P1,⟨u0,rfl,hwf,hcs⟩,hr1⟩:=(tK.out _ hw).get hn.out htl
 obtain rfl:x=tt:=by have:=P1.out;rw[htt.out]at this;injection this with h;exact h.symm
 obtain⟨ca,cc,rfl,cl,cmx,c0⟩:=hcs
 obtain⟨b3,o3,y,r3,_,rfl,P3,⟨v0,rfl,hcw,hga⟩,hr3⟩:=c0.get hkn.out hcl
 obtain rfl:y=ct:=by have:=P3.out;rw[hct.out]at this;injection this with h;exact h.symm
 rw[<- hkn.out]at hr1 cl
 rw[<- hnm.out]at hr3
 have e_2:w0.cell? ⟨b1,o1+t*3+2,none⟩=some (.slice (some ⟨b3,o3,none⟩) kn cc):=hr1 2 _ rfl
 have e_3:w0.cell? ⟨b3,o3+c*3,none⟩=some (.string nm):=by simpa using hr3 0 _ rfl
 have hbb1:=World.block_lt_of_cell? _ _ e_2;dsimp only at hbb1
 have hbb3:=World.block_lt_of_cell? _ _ e_3;dsimp only at hbb3
 clear hr1 hr3 hga c0 hcw hwf P1 P3
 go_wp2_with fail
 clear e_2 e_3 hbb1 hbb3
 go_loopw [8] (fun ii wr=>∃i:Nat,i<=t+1/\ii=.int .i64 i/\Hid (∀i',i' < i->∀ (j:Nat) ti ci,Ts[i']? = some ti->ti.cons[j]? = some ci->¬ (ci.name=nm/\(i' < t\/j<c)))/\Below w.heap.size w wr/\RowAt wr w.heap.size 0 [.slice (some ⟨b1,o1,none⟩) tn tc,.slice na nn nc]) (fun ii _=>t+1-(intOf ii).toNat)
 case atStart=>exact⟨0,by omega,rfl,kH (fun i' h=>by omega),hw,B⟩
 case round=>
  clear hw b_0 b_1 hsB B
  obtain⟨i,hi,rfl,hf,hw,B⟩:=hrel
  have hz:=hw.size
  obtain⟨b_0,b_1⟩:=B.box2;have hsB:=bLt b_0
  by_cases hlt:i<=t
  ·obtain⟨b5,o5,z,r5,_,hta,P5,⟨u5,rfl,hwf,hcs⟩,hr5⟩:=(tK.out _ hw).get hn.out (show i<tn by omega)
   injection hta with hta;injection hta with ht1 ht2 ht3;subst ht1;subst ht2
   obtain⟨ca,cc',rfl,cl',cmx',c0⟩:=hcs
   have hCz:=hC.out z (List.mem_of_getElem? P5.out)
   obtain⟨zn,hzn⟩ : ∃q,q=z.cons.length:=⟨_,rfl⟩
   rw[<- hzn]at hr5 cl' hCz
   have e_2:wr.cell? ⟨b1,o1+i*3+2,none⟩=some (.slice ca zn cc'):=hr5 2 _ rfl
   have hbb1:=World.block_lt_of_cell? _ _ e_2;dsimp only at hbb1
   have hy:=fun j ci=>hyes.out i j z ci P5.out
   have hnx:(∀j,j<zn->∀ci,z.cons[j]? = some ci->¬ (ci.name=nm/\(i<t\/j<c)))->∀i',i' < i+1->∀ (j:Nat) ti ci,Ts[i']? = some ti->ti.cons[j]? = some ci->¬ (ci.name=nm/\(i' < t\/j<c)):=fun h i' hi' j ti ci a1 a2=>by
    by_cases hii:i' < i
    ·exact hf.out i' hii j ti ci a1 a2
    ·obtain rfl:i' = i:=by omega
     rw[P5.out]at a1;injection a1 with a1;subst a1
     exact h j (by rw[hzn];exact(List.getElem?_eq_some_iff.1 a2).1) ci a2
   have cK:∀W,Below wr.heap.size wr W->SlAt GCon.R 3 0 W ca z.cons:=fun W hW=>c0.below GCon.good hW
   have hbo:=Below.refl wr.heap.size wr
   clear hr5 hwf c0 P5
   replace hy:=kH hy;replace hnx:=kH hnx;replace cK:=kH cK;replace hzn:=kH hzn
   go_wp2_with fail
   clear e_2 hbb1
   go_loopw [33] (fun kk wq=>∃k:Nat,k<=zn/\kk=.int .i64 k/\Hid (∀j,j<k->∀ci,z.cons[j]? = some ci->¬ (ci.name=nm/\(i<t\/j<c)))/\Below w.heap.size w wq/\Hid (Below wr.heap.size wr wq)/\RowAt wq w.heap.size 0 [.slice (some ⟨b1,o1,none⟩) tn tc,.slice na nn nc]) (fun kk _=>zn-(intOf kk).toNat)
   case atStart=>exact⟨0,by omega,rfl,kH (fun j h=>by omega),hw,kH hbo,B⟩
   case round=>
    clear hw b_0 b_1 hsB B hbo hz
    obtain⟨k,hk,rfl,hfk,hw,hbo,B⟩:=hrel
    have hz:=hw.size
    obtain⟨b_0,b_1⟩:=B.box2;have hsB:=bLt b_0
    by_cases hlt3:k<zn
    ·obtain⟨b7,o7,d,r7,_,rfl,P7,⟨u7,rfl,hcw,hga⟩,hr7⟩:=(cK.out _ hbo.out).get hzn.out hlt3
     obtain⟨ga,gc,rfl⟩:=hga.form
     have hyk:=hy.out k d P7.out (by omega)
     have hnk : ¬ (d.name=nm/\(i<t\/k<c))->∀j,j<k+1->∀ci,z.cons[j]? = some ci->¬ (ci.name=nm/\(i<t\/j<c)):=fun h j hj ci a2=>by
      by_cases hii:j<k
      ·exact hfk.out j hii ci a2
      ·obtain rfl:j=k:=by omega
       rw[P7.out]at a2;injection a2 with a2;subst a2
       exact h
     obtain⟨gn,hgn⟩ : ∃q,q=d.arg.items.length:=⟨_,rfl⟩
     obtain⟨cnm,hcnm⟩ : ∃q,q=d.name:=⟨_,rfl⟩
     obtain⟨chas,hch⟩ : ∃q,q=d.has:=⟨_,rfl⟩
     rw[<- hcnm]at hnk hyk
     rw[<- hgn,<- hcnm,<- hch]at hr7
     have e_0:wr.cell? ⟨b7,o7+k*3,none⟩=some (.string cnm):=by simpa using hr7 0 _ rfl
     have e_1:wr.cell? ⟨b7,o7+k*3+1,none⟩=some (.bool chas):=hr7 1 _ rfl
     have e_2:wr.cell? ⟨b7,o7+k*3+2,none⟩=some (.slice ga gn gc):=hr7 2 _ rfl
     have hbb3:=World.block_lt_of_cell? _ _ e_0;dsimp only at hbb3
     clear hr7 hga hcw P7
     replace hyk:=kH hyk;replace hnk:=kH hnk;replace hgn:=kH hgn;replace hcnm:=kH hcnm;replace hch:=kH hch
     go_upto_region 8 with fail
     obtain⟨w4,hW4⟩ : ∃W,W=wr.alloc (.cells #[.string cnm,.bool chas,.slice ga gn gc] 105):=⟨_,rfl⟩
     rw[<- hW4]
     have hb4:Below wr.heap.size wr w4:=by rw[hW4];go_grown
     have C4:RowAt w4 wr.heap.size 0 [.string cnm,.bool chas,.slice ga gn gc]:=by rw[hW4];exact RowAt.box wr #[_,_,_] _
     have B4:=B.below hb4
     have hw4:=hw.trans (hb4.mono hz)
     have hbo4:=hbo.out.trans (hb4.mono hbo.out.size)
     obtain⟨cb,hcb⟩ : ∃q,q=wr.heap.size:=⟨_,rfl⟩
     rw[<- hcb]at C4 ⊢
     replace hcb:=kH hcb;replace hbo4:=kH hbo4
     clear hW4 e_0 e_1 e_2 hbb3 B b_0 b_1 hsB hb4
     obtain⟨c4_0,c4_1,c4_2⟩:=C4.box3;have hsC4:=bLt c4_0
     have dnb:(cnm.toList == nm.toList)=decide (cnm=nm):=by rw[Bool.eq_iff_iff,beq_iff_eq,toList_eq,decide_eq_true_iff]
     by_cases h1:cnm=nm
     ·rw[decide_eq_true h1]at dnb
      by_cases h2:i<t
      ·have x1:decide (i<t)=true:=decide_eq_true h2
       have x1' : decide ((i:Int)<(t:Int))=true:=decide_eq_true (by omega)
       have hQ:=hyk.out h1 (.inl h2)
       replace h1:=kH h1;replace hQ:=kH hQ
       by_cases h3:k<c
       all_goals
        go_wp2_with fail
        go_returns
        exact⟨⟨true,rfl,fun _=>hQ.out,fun _=>rfl⟩,hw4⟩
      ·have x1:decide (i<t)=false:=decide_eq_false h2
       have x1' : decide ((i:Int)<(t:Int))=false:=decide_eq_false (by omega)
       by_cases h3:k<c
       ·have x2:decide (k<c)=true:=decide_eq_true h3
        have x2' : decide ((k:Int)<(c:Int))=true:=decide_eq_true (by omega)
        have hQ:=hyk.out h1 (.inr h3)
        replace h1:=kH h1;replace hQ:=kH hQ
        go_wp2_with fail
        go_returns
        exact⟨⟨true,rfl,fun _=>hQ.out,fun _=>rfl⟩,hw4⟩
       ·have x2:decide (k<c)=false:=decide_eq_false h3
        have x2' : decide ((k:Int)<(c:Int))=false:=decide_eq_false (by omega)
        have hf2:=kH (hnk.out (fun h=>by omega))
        replace h1:=kH h1
        go_wp2_with fail
        go_roundw
        case rel=>exact⟨k+1,by omega,by go_num,hf2,hw4,hbo4,B4⟩
        case measure=>simp[intOf];omega
     ·rw[decide_eq_false h1]at dnb
      have hf2:=kH (hnk.out (fun h=>h1 h.1))
      replace h1:=kH h1
      go_wp2_with fail
      go_roundw
      case rel=>exact⟨k+1,by omega,by go_num,hf2,hw4,hbo4,B4⟩
      case measure=>simp[intOf];omega
    ·obtain rfl:k=zn:=by omega
     have hf2:=kH (hnx.out hfk.out)
     go_wp2_with fail
     go_roundw
     case rel=>exact⟨i+1,by omega,by go_num,hf2,hw,B⟩
     case measure=>simp[intOf];omega
  ·obtain rfl:i=t+1:=by omega
   have hq:=hno.out hf.out
   replace hq:=kH hq
   go_wp2_with fail
   go_returns
   exact⟨⟨false,rfl,fun h=>(by cases h),fun h=>absurd h hq.out⟩,hw⟩
theorem badPatN_c (q:GPat) (hq:q.nodes.length<=1152921504606846976) (r:List Value) (lo:Nat) (w:World) (hr:GPat.R lo w r q) :
  Calls Tryz.prog 105 (#[.agg r.toArray] ++ #[]) w fun e w'=>e=.returned (.bool (!patOk (patD q)))/\Below w.heap.size w w':=by
 have hR:=GPat.toData hr
 obtain⟨u0,rfl,_,h0⟩:=hr
 obtain⟨a,c,rfl⟩:=h0.form
 have c1:=fun W (hW:Below w.heap.size w W)=>PatOk_c (patD q) (by unfold patD;simp only[List.length_map];exact hq) _ lo W (GData.good.below hR hW)
 clear h0 hR hq
 generalize patOk (patD q)=k at *
 generalize q.nodes.length=n at *
 replace c1:=kH c1
 show Calls Tryz.prog 105 #[.agg #[.slice a n c]] w _
 go_enter Tryz.func105,Tryz.ntmps105
 go_upto_region 1 with fail
 have C:RowAt (w.alloc (.cells #[.slice a n c] 177)) (w.heap.size) 0 [.slice a n c]:=RowAt.box w #[.slice a n c] 177
 have hw:Below w.heap.size w (w.alloc (.cells #[.slice a n c] 177)):=by go_grown
 generalize (w.alloc (.cells #[.slice a n c] 177))=w0 at *
 have c_0:=C.box1;have hsC:=bLt c_0
 go_wp2_with (go_at_call 106;((with_reducible refine(c1.out _ hw).mono ?_);rintro e w1 ⟨rfl,hb⟩;have hw:=hw.trans (hb.mono hw.size);have C:=C.below hb;have c_0:=C.box1;have hsC:=bLt c_0;clear hb))
 go_returns
 exact⟨rfl,hw⟩
theorem ProgramOk_c (p:GProgram) (hs:ProgSm p) (r:List Value) (lo:Nat) (w:World) (hr:GProgram.R lo w r p) :
  Calls Tryz.prog 59 #[.agg r.toArray] w fun e w'=>e=.returned (.bool (progOk p))/\Below w.heap.size w w':=by
 have cS:=fun W (hW:Below w.heap.size w W)=>shapeOk_c p hs r lo W (GProgram.good.below hr hW)
 obtain⟨Ts,N⟩:=p
 obtain⟨tv,nv,rfl,-,hT,hN⟩:=hr
 obtain⟨s1,s2,s3,s4⟩:=hs
 have hS:progOk ⟨Ts,N⟩=(shapeP ⟨Ts,N⟩ && N.all fun x=>patsOk x.pats):=rfl
 dsimp only at *
 generalize progOk ⟨Ts,N⟩=res at *
 generalize shapeP ⟨Ts,N⟩=sp at *
 obtain⟨na,nc,rfl,ul,um,h0⟩:=hN
 obtain⟨n,hn⟩ : ∃n,n=N.length:=⟨_,rfl⟩
 rw[<- hn]at ul cS s1 ⊢
 have hkk:∀W,Below w.heap.size w W->SlAt GNode.R 6 lo W na N:=fun W hW=>h0.below GNode.good hW
 clear hT h0 s3
 replace hn:=kH hn;replace s4:=kH s4;replace hkk:=kH hkk;replace hS:=kH hS;replace cS:=kH cS
 show Calls Tryz.prog 59 #[.agg #[tv,.slice na n nc]] w _
 cases sp
 ·have hr:res=false:=hS.out
  subst hr
  clear hS
  go_enter Tryz.func59,Tryz.ntmps59
  go_upto_region 1 with fail
  have D:RowAt (w.alloc (.cells #[tv,.slice na n nc] 39)) (w.heap.size) 0 [tv,.slice na n nc]:=RowAt.box w #[tv,.slice na n nc] 39
  have hw:Below w.heap.size w (w.alloc (.cells #[tv,.slice na n nc] 39)):=by go_grown
  generalize (w.alloc (.cells #[tv,.slice na n nc] 39))=w0 at *
  obtain⟨d_0,d_1⟩:=D.box2;have hsD:=bLt d_0
  go_wp2_with (go_at_call 101;((with_reducible refine(cS.out _ hw).mono ?_);rintro e w1 ⟨rfl,hb⟩;have hw:=hw.trans (hb.mono hw.size);have D:=D.below hb;obtain⟨d_0,d_1⟩:=D.box2;have hsD:=bLt d_0;clear hb))
  go_returns
  exact⟨rfl,hw⟩
 replace hS:Hid (res=N.all fun x=>patsOk x.pats):=hS
 go_enter Tryz.func59,Tryz.ntmps59
 go_upto_region 1 with fail
 have D:RowAt (w.alloc (.cells #[tv,.slice na n nc] 39)) (w.heap.size) 0 [tv,.slice na n nc]:=RowAt.box w #[tv,.slice na n nc] 39
 have hw:Below w.heap.size w (w.alloc (.cells #[tv,.slice na n nc] 39)):=by go_grown
 generalize (w.alloc (.cells #[tv,.slice na n nc] 39))=w0 at *
 obtain⟨d_0,d_1⟩:=D.box2;have hsD:=bLt d_0
 go_wp2_with (go_at_call 101;((with_reducible refine(cS.out _ hw).mono ?_);rintro e w1 ⟨rfl,hb⟩;have hw:=hw.trans (hb.mono hw.size);have D:=D.below hb;obtain⟨d_0,d_1⟩:=D.box2;have hsD:=bLt d_0;clear hb))
 go_loopw [11] (fun ii wr=>∃k:Nat,k<=n/\ii=.int .i64 k/\Hid (∀y∈N.take k,patsOk y.pats=true)/\Below w.heap.size w wr/\RowAt wr w.heap.size 0 [tv,.slice na n nc]) (fun ii _=>n-(intOf ii).toNat)
 case atStart=>exact⟨0,by omega,rfl,fun y hy=>by simp at hy,hw,D⟩
 case round=>
  clear hw D d_0 d_1 hsD
  obtain⟨k,hk,rfl,hF,hw,D⟩:=hrel
  have hsz:=hw.size
  obtain⟨d_0,d_1⟩:=D.box2;have hsD:=bLt d_0
  by_cases hlt:k<n
  ·obtain⟨b1,o1,x,r,_,rfl,P1,hx,r1⟩:=(hkk.out _ hw).get hn.out hlt
   have P1':=P1.out
   have hxs:=s4.out x (List.mem_of_getElem? P1')
   have hgood:=fun h=>all_stepL (f:=fun(x:GNode)=>patsOk x.pats) hF.out P1' h
   have hbadp:patsOk x.pats=false->res=false:=fun h=>by rw[hS.out];exact all_bad (f:=fun(x:GNode)=>patsOk x.pats) P1' h
   obtain⟨v0,v1,rfl,hwf,hk0,hp0⟩:=hx
   have H4:=fun W (hW:Below wr.heap.size wr W)=>containsFuncPat_c x.pats (fun q=>!patOk (patD q)) 105 #[] lo v1 W (hp0.below GPat.good hW) (fun i q r W' hi hW' hx=>badPatN_c q (hxs.2 q (List.mem_of_getElem? hi)) r lo W' hx) (fun _ _=>by kernel_rfl)
   have hany:x.pats.any (fun q=>!patOk (patD q)) = !patsOk x.pats:=by rw[<- List.not_all_eq_any_not];rfl
   rw[hany]at H4
   generalize patsOk x.pats=q at *
   obtain⟨kd,at_,nn,s,ks,ps⟩:=x
   obtain⟨pa,pc,rfl⟩:=hp0.form
   obtain⟨ka,kc,rfl⟩:=hk0.form
   dsimp only at *
   obtain⟨e_0,e_1,e_2,e_3,e_4,e_5⟩:=r1.cells6
   have hbb1:=World.block_lt_of_cell? _ _ e_0;dsimp only at hbb1
   clear hk0 hp0 hwf r1 P1 P1' hxs hF hany
   generalize ps.length=pm at *
   generalize ks.length=m at *
   replace hgood:=kH hgood;replace hbadp:=kH hbadp;replace H4:=kH H4
   go_upto_region 6 with fail
   have hb1:Below wr.heap.size wr (wr.alloc (.cells #[.int .i64 kd,.int .i64 at_,.int .i64 nn,.string s,.slice ka m kc,.slice pa pm pc] 123)):=by go_grown
   have E:RowAt (wr.alloc (.cells #[.int .i64 kd,.int .i64 at_,.int .i64 nn,.string s,.slice ka m kc,.slice pa pm pc] 123)) wr.heap.size 0 [.int .i64 kd,.int .i64 at_,.int .i64 nn,.string s,.slice ka m kc,.slice pa pm pc]:=RowAt.box _ _ _
   have hw':=hw.trans (hb1.mono hsz)
   have D':=D.below hb1
   have cN':=H4.out _ hb1
   generalize wr.alloc (.cells #[.int .i64 kd,.int .i64 at_,.int .i64 nn,.string s,.slice ka m kc,.slice pa pm pc] 123)=w2 at *
   clear hw D d_0 d_1 hsD e_0 e_1 e_2 e_3 e_4 e_5 hb1 H4
   have hw:=hw';have D:=D'
   clear hw' D'
   replace cN':=kH cN'
   obtain⟨d_0,d_1⟩:=D.box2;have hsD:=bLt d_0;obtain⟨e_0,e_1,e_2,e_3,e_4,e_5⟩:=E.box6;have hsE:=bLt e_0
   cases q
   ·have hr:=hbadp.out rfl
    subst hr
    clear hbadp hgood hS
    go_wp2_with (go_at_call 104;((with_reducible refine(cN'.out).mono ?_);rintro e w1 ⟨rfl,hb⟩;have hw:=hw.trans (hb.mono hw.size);have D:=D.below hb;obtain⟨d_0,d_1⟩:=D.box2;have hsD:=bLt d_0;have E:=E.below hb;obtain⟨e_0,e_1,e_2,e_3,e_4,e_5⟩:=E.box6;have hsE:=bLt e_0;clear hb))
    go_returns
    exact⟨rfl,hw⟩
   ·have hF:=kH (hgood.out rfl)
    clear hbadp hgood
    go_wp2_with (go_at_call 104;((with_reducible refine(cN'.out).mono ?_);rintro e w1 ⟨rfl,hb⟩;have hw:=hw.trans (hb.mono hw.size);have D:=D.below hb;obtain⟨d_0,d_1⟩:=D.box2;have hsD:=bLt d_0;have E:=E.below hb;obtain⟨e_0,e_1,e_2,e_3,e_4,e_5⟩:=E.box6;have hsE:=bLt e_0;clear hb))
    go_roundw
    case rel=>exact⟨k+1,by omega,by go_num,hF,hw,D⟩
    case measure=>simp[intOf];omega
  ·obtain rfl:k=n:=by omega
   have hr:res=true:=by rw[hS.out];exact all_full (f:=fun(x:GNode)=>patsOk x.pats) hF.out hn.out
   subst hr
   clear hF hS
   go_wp2_with fail
   go_returns
   exact⟨rfl,hw⟩
/-! The reference's end of a node. -/
theorem l04NEnd_out (x:GProgram) (i:Nat) (r:List Value) (lo:Nat) (w:World) (hx:GProgram.R lo w r x) (hi:x.nodes.length<=i) :
  Calls Tryz.prog 92 #[.agg r.toArray,.int .i64 i] w fun e w'=>e=.returned (.int .i64 (-1))/\Below w.heap.size w w':=by
 obtain⟨tv,u0,rfl,-,t0,a0⟩:=hx
 obtain⟨pa,pc,rfl⟩:=a0.form
 have d1:decide ((x.nodes.length:Int)<=i)=true:=decide_eq_true (by omega)
 clear a0
 go_enter Tryz.func92,Tryz.ntmps92
 go_wp2
 go_returns
 exact⟨rfl,by go_grown⟩
theorem l04NEnd_c (x:GProgram) (hL:x.nodes.length<=1152921504606846976):∀ (f i:Nat) (r:List Value) (lo:Nat) (w:World),GProgram.R lo w r x->x.nodes.length<i+f->
  Calls Tryz.prog 92 #[.agg r.toArray,.int .i64 i] w fun e w'=>e=.returned (.int .i64 (endsK x.nodes.length (kidsAtN x.nodes) f i))/\Below w.heap.size w w'
 |0,i,r,lo,w,hx,hf=>by rw[endsK_out (by omega)];exact l04NEnd_out x i r lo w hx (by omega)
 |f+1,i,r,lo,w,hx,hf=>by
  have ih:=l04NEnd_c x hL f
  have Hx:=hx
  obtain⟨tv,u0,rfl,-,t0,a0⟩:=hx
  obtain⟨pa,pc,rfl⟩:=a0.form
  by_cases hlt:i<x.nodes.length
  ·have d1:decide ((x.nodes.length:Int)<=i)=false:=decide_eq_false (by omega)
   have d1' : decide (x.nodes.length<=i)=false:=decide_eq_false (by omega)
   obtain⟨pa',pc',he,-,-,h0⟩:=a0
   obtain⟨rfl,rfl⟩ : pa' = pa/\pc' = pc:=by injection he with a b c;exact⟨a.symm,c.symm⟩
   obtain⟨b1,o1,n,s1,_,rfl,P1,q1,r1⟩:=h0.get (kH rfl) hlt
   obtain⟨kv,pv,rfl,-,k0,-⟩:=q1
   obtain⟨ka,kc,rfl,kl,km,k0⟩:=k0
   have hends:endsK x.nodes.length (kidsAtN x.nodes) (f+1) i=kidsEnd (endsK x.nodes.length (kidsAtN x.nodes) f) (i+1) n.kids:=by conv=>lhs;unfold endsK;rw[if_neg (by omega),kidsAtN_get P1.out]
   rw[hends]
   have R1:w.cell? ⟨b1,o1+i*6+4,none⟩=some (.slice ka n.kids.length kc):=by simpa using r1 4 _ rfl
   obtain⟨m,hm⟩ : ∃m,m=n.kids.length:=⟨_,rfl⟩
   rw[<- hm]at kl R1
   have X1:=kH hm
   clear hm hends r1 h0
   replace ih:=kH ih
   replace k0:=kH k0
   obtain⟨E,hE⟩ : ∃E:Nat->Int,E=endsK x.nodes.length (kidsAtN x.nodes) f:=⟨_,rfl⟩
   have hEr:∀z,0<=E z->(z:Int)+1<=E z/\E z<=x.nodes.length:=fun z h=>by rw[hE]at h ⊢;exact endsK_range _ _ f z h
   rw[<- hE]at ih ⊢
   clear hE
   replace hEr:=kH hEr
   go_enter Tryz.func92,Tryz.ntmps92
   go_upto_region 1 with fail
   have B:RowAt (w.alloc (.cells #[tv,.slice (some ⟨b1,o1,none⟩) x.nodes.length pc'] 39)) (w.heap.size) 0 [tv,.slice (some ⟨b1,o1,none⟩) x.nodes.length pc']:=RowAt.box w #[tv,.slice (some ⟨b1,o1,none⟩) x.nodes.length pc'] 39
   have hw:Below w.heap.size w (w.alloc (.cells #[tv,.slice (some ⟨b1,o1,none⟩) x.nodes.length pc'] 39)):=by go_grown
   generalize (w.alloc (.cells #[tv,.slice (some ⟨b1,o1,none⟩) x.nodes.length pc'] 39))=w0 at *
   replace R1:=cell_below hw R1
   obtain⟨b_0,b_1⟩:=B.box2;have hsB:=bLt b_0
   go_wp2_with fail
   go_loopw [5,22] (fun nx ii wr=>∃ (j:Nat) (z:Nat),j<=m/\i+1<=z/\z<=x.nodes.length/\nx=.int .i64 z/\ii=.int .i64 j/\Hid (kidsEnd E (i+1) n.kids=kidsEnd E z (n.kids.drop j))/\Below w.heap.size w wr/\RowAt wr w.heap.size 0 [tv,.slice (some ⟨b1,o1,none⟩) x.nodes.length pc']) (fun _ ii _=>m-(intOf ii).toNat)
   case atStart=>exact⟨0,i+1,by omega,by omega,by omega,by simp,rfl,by simp[Hid],hw,B⟩
   case round=>
    clear b_0 b_1 R1 B hw hsB
    obtain⟨j,z,hj,hz1,hz2,rfl,rfl,hK,hw,B⟩:=hrel
    obtain⟨b_0,b_1⟩:=B.box2;have hsB:=bLt b_0
    by_cases hjm:j<m
    ·obtain⟨b2,o2,k,s2,_,rfl,P2,⟨rfl,hk64⟩,r2⟩:=((k0.out.below IntR.good hw).get X1 hjm)
     have e0:wr.cell? ⟨b2,o2+j,none⟩=some (.int .i64 k):=by simpa using r2 0 _ rfl
     have hdrop:n.kids.drop j=k :: n.kids.drop (j+1):=by
      obtain⟨hjl,he⟩:=List.getElem?_eq_some_iff.1 P2.out
      rw[List.drop_eq_getElem_cons hjl,he]
     rw[hdrop]at hK
     clear r2 hdrop
     by_cases hkz:k=z
     ·subst hkz
      have hK1:kidsEnd E (z:Int) (((z:Nat):Int) :: n.kids.drop (j+1))=(if E z<0 then -1 else kidsEnd E (E z) (n.kids.drop (j+1))):=by
       conv=>lhs;unfold kidsEnd
       simp
      rw[Hid,hK1]at hK
      replace hK:=kH hK
      clear hK1
      have c1:=fun W hW=>ih.out z [tv,.slice (some ⟨b1,o1,none⟩) x.nodes.length pc'] lo W hW (by omega)
      have hr:=hEr.out z
      generalize E z=e at *
      replace hr:=kH hr
      have hd:((z:Int) != z)=false:=by simp
      go_wp2_with fail
      refine(c1 _ (GProgram.good.below Hx hw)).mono ?_
      rintro e' w2 ⟨rfl,hb⟩
      have hw2:=hw.trans (hb.mono hw.size)
      have B2:=B.below hb
      clear hb b_0 b_1 e0 B hw hsB
      by_cases he:e<0
      ·have d2:decide (e<0)=true:=decide_eq_true he
       rw[Hid,if_pos he]at hK
       replace hK:=kH hK
       clear hr c1 he
       go_wp2
       go_returns
       exact⟨by rw[hK.out];rfl,hw2⟩
      ·have d2:decide (e<0)=false:=decide_eq_false he
       rw[Hid,if_neg he]at hK
       have hr':=hr.out (by omega)
       obtain⟨z',rfl⟩ : ∃z' : Nat,e=z':=⟨e.toNat,by omega⟩
       replace hK:=kH hK
       clear hr c1 he
       go_wp2
       go_roundw
       case rel=>exact⟨j+1,z',by omega,by omega,by omega,rfl,by go_num,hK,hw2,B2⟩
       case measure=>simp[intOf];omega
     ·have hK1:kidsEnd E (z:Int) (k :: n.kids.drop (j+1)) = -1:=by
       conv=>lhs;unfold kidsEnd
       rw[if_pos hkz]
      rw[Hid,hK1]at hK
      replace hK:=kH hK
      clear hK1
      have hd:(k != (z:Int))=true:=by simpa using hkz
      clear hkz
      go_wp2
      go_returns
      exact⟨by rw[hK.out];rfl,hw⟩
    ·obtain rfl:j=m:=by omega
     rw[Hid,X1.out,List.drop_length]at hK
     replace hK:=kH (hK.trans (by unfold kidsEnd;rfl:_=(z:Int)))
     go_wp2
     go_returns
     exact⟨by rw[hK.out];rfl,hw⟩
  ·rw[endsK_out (by omega)];exact l04NEnd_out x i _ lo w Hx (by omega)
theorem l04Node_plain (x:GNode) (hx:x.wf) (N:List GNode) (hN:N.length<=1152921504606846976) (tv:Value) (na:Option Addr) (nc:Nat) (u0 u1:Value) (lo1 lo2:Nat) (w:World)
  (h0:Sl GNode.R 6 lo1 w (.slice na N.length nc) N) (hk:Sl IntR 1 lo2 w u0 x.kids) (hp:Sl GPat.R 1 lo2 w u1 x.pats) (hps:∀q∈x.pats,q.nodes.length<=1152921504606846976) (hg : ¬ (x.kind=3\/x.kind=5\/x.kind=7\/x.kind=15)/\x.kind≠8/\x.kind≠10/\x.kind≠2/\x.kind≠4/\x.kind≠13) :
  Calls Tryz.prog 91 #[.agg #[tv,.slice na N.length nc],.agg #[.int .i64 x.kind,.int .i64 x.at_,.int .i64 x.n,.string x.s,u0,u1]] w fun e w'=>e=.returned (.bool (nodSpec N x))/\Below w.heap.size w w':=by
 obtain⟨kd,at_,nn,s,ks,ps⟩:=x
 obtain⟨pa,pc,rfl,pl,pmx,p0⟩:=hp
 obtain⟨ka,kc,rfl,kl,km,k0⟩:=hk
 obtain⟨hxk,hxa,hxn,hss⟩:=hx
 dsimp only at *
 replace hg:=kH hg
 have hres:=nodSpec_eq N ⟨kd,at_,nn,s,ks,ps⟩
 have hB0:badA ⟨kd,at_,nn,s,ks,ps⟩=(((((decide (kd<1)||decide (19<kd))||decide (at_<0))||(kd != 1&&nn != 0))||decide (nn<0))||decide (4611686018427387903<nn)):=rfl
 generalize nodSpec N ⟨kd,at_,nn,s,ks,ps⟩=res at *
 generalize badA ⟨kd,at_,nn,s,ks,ps⟩=bad at *
 have hfk:0<ks.length->(∀k∈ks,0<=k/\k<(N.length:Int))->∃ (j:Nat) (b o b2 o2:Nat) (y:Int),ka=some ⟨b,o,none⟩/\na=some ⟨b2,o2,none⟩/\w.cell? ⟨b,o,none⟩=some (.int .i64 (j:Int))/\j<N.length/\w.cell? ⟨b2,o2+j*6,none⟩=some (.int .i64 y)/\firstK N ks=y:=fun h hin=>by
  obtain⟨b1,o1,z,r,_,rfl,P1,⟨rfl,_⟩,r1⟩:=k0.get (kH rfl) h
  obtain⟨hz0,hz1⟩:=hin z (List.mem_of_getElem? P1.out)
  obtain⟨j,rfl⟩ : ∃j:Nat,z=j:=⟨z.toNat,by omega⟩
  obtain⟨na',nc',he,_,_,n0⟩:=h0
  obtain⟨rfl,rfl⟩ : na' = na/\nc' = nc:=by injection he with a b c;exact⟨a.symm,c.symm⟩
  obtain⟨b2,o2,y,r',_,rfl,P2,⟨v0,v1,rfl,_⟩,r2⟩:=n0.get (kH rfl) (show j<N.length by omega)
  refine⟨j,b1,o1,b2,o2,y.kind,rfl,rfl,by simpa using r1 0 _ rfl,by omega,by simpa using r2 0 _ rfl,?_⟩
  have hks:ks=(j:Int) :: ks.drop 1:=by
   have:=P1.out
   cases ks with
   |nil=>simp at h
   |cons a l=>simp at this;subst this;rfl
  rw[hks]
  show nkind N j=_
  unfold nkind
  rw[if_pos (by omega),Int.toNat_natCast,P2.out];rfl
 clear h0
 have hpn:((ps.length:Int) == 0)=true->patsOk ps=true:=patsOk_nil
 obtain⟨m,hm⟩ : ∃m,m=ks.length:=⟨_,rfl⟩
 obtain⟨n,hn⟩ : ∃n,n=N.length:=⟨_,rfl⟩
 obtain⟨pm,hpm⟩ : ∃pm,pm=ps.length:=⟨_,rfl⟩
 have hBody:nodRest N ⟨kd,at_,nn,s,ks,ps⟩ =
  if kd=3\/kd=5\/kd=7\/kd=15 then nameOk s&&((ps.length:Int) == 0&&(ks.length:Int) == arP kd)
  else if kd=8 then nameOk s&&(((ks.length:Int) == 2&&firstK N ks == 5)&&(ps.length:Int) == 0)
  else if kd=10 then primOk s&&((ps.length:Int) == 0&&(ks.length:Int) == arP kd)
  else if kd=2 then ((ps.length:Int) == 0&&(ks.length:Int) == arP kd)
  else if kd=4 then ((ps.length:Int) == 0&&conShape s ks.length ((ks.length:Int) == 1&&firstK N ks == 11))
  else if kd=13 then s.toList.isEmpty&&(patsOk ps&&(decide (2<=(ks.length:Int))&&(ps.length:Int) == (ks.length:Int)-1))
  else s.toList.isEmpty&&((ps.length:Int) == 0&&(ks.length:Int) == arP kd):=rfl
 generalize nodRest N ⟨kd,at_,nn,s,ks,ps⟩=body at *
 rw[<- hm,<- hpm]at hBody
 rw[<- hm,<- hn]at hfk
 rw[<- hn]at hres
 rw[<- hm]at kl
 rw[<- hpm]at pl
 rw[<- hm,<- hn,<- hpm]
 rw[<- hn]at hN
 have cA:=fun W=>l04Kids_c kd W
 have cN:=fun W=>spec_NameOk_c s hss W
 have cP:=fun W=>l04Prim_c s W
 have cS:=fun p W=>l04ConOk_c s m p hss W
 generalize firstK N ks=fk at *
 obtain⟨ar,har⟩ : ∃ar,arP kd=ar:=⟨_,rfl⟩
 rw[har]at hBody cA
 clear hn hpn
 replace hm:=kH hm;replace hpm:=kH hpm;replace hps:=kH hps
 replace hB0:=kH hB0;replace hBody:=kH hBody;replace hres:=kH hres;replace hfk:=kH hfk;replace har:=kH har;replace k0:=kH k0;replace p0:=kH p0
 go_enter Tryz.func91,Tryz.ntmps91
 go_upto_region 1 with fail
 have D:RowAt (w.alloc (.cells #[tv,.slice na n nc] 39)) (w.heap.size) 0 [tv,.slice na n nc]:=RowAt.box w #[tv,.slice na n nc] 39
 have D:=D.below (show Below (w.alloc (.cells #[tv,.slice na n nc] 39)).heap.size (w.alloc (.cells #[tv,.slice na n nc] 39)) ((w.alloc (.cells #[tv,.slice na n nc] 39)).alloc (.cells #[.int .i64 kd,.int .i64 at_,.int .i64 nn,.string s,.slice ka m kc,.slice pa pm pc] 123)) by go_grown)
 have E:RowAt ((w.alloc (.cells #[tv,.slice na n nc] 39)).alloc (.cells #[.int .i64 kd,.int .i64 at_,.int .i64 nn,.string s,.slice ka m kc,.slice pa pm pc] 123)) (w.heap.size+1) 0 [.int .i64 kd,.int .i64 at_,.int .i64 nn,.string s,.slice ka m kc,.slice pa pm pc]:=by have h:=RowAt.box (w.alloc (.cells #[tv,.slice na n nc] 39)) #[.int .i64 kd,.int .i64 at_,.int .i64 nn,.string s,.slice ka m kc,.slice pa pm pc] 123;simp only[World.size_alloc]at h;exact h
 have hw:Below w.heap.size w ((w.alloc (.cells #[tv,.slice na n nc] 39)).alloc (.cells #[.int .i64 kd,.int .i64 at_,.int .i64 nn,.string s,.slice ka m kc,.slice pa pm pc] 123)):=by go_grown
 generalize ((w.alloc (.cells #[tv,.slice na n nc] 39)).alloc (.cells #[.int .i64 kd,.int .i64 at_,.int .i64 nn,.string s,.slice ka m kc,.slice pa pm pc] 123))=w0 at *
 have hw1:Below w.heap.size w w0:=hw
 obtain⟨d_0,d_1⟩:=D.box2;have hsD:=bLt d_0;obtain⟨e_0,e_1,e_2,e_3,e_4,e_5⟩:=E.box6;have hsE:=bLt e_0
 go_cut [42] (fun sx wx=>sx=.bool bad/\wx=w0)
 case first=>
  cases a1:decide (kd<1)
  ·cases a2:decide (19<kd)
   ·cases a3:decide (at_<0)
    ·cases a4:(kd != 1)
     ·cases a6:decide (nn<0)
      ·cases a7:decide (4611686018427387903<nn)
       ·(go_wp2_with fail;go_meet;refine⟨?_,rfl⟩;rw[hB0.out];simp[*];done)
       ·(go_wp2_with fail;go_meet;refine⟨?_,rfl⟩;rw[hB0.out];simp[*];done)
      ·(go_wp2_with fail;go_meet;refine⟨?_,rfl⟩;rw[hB0.out];simp[*];done)
     ·cases a5:(nn != 0)
      ·cases a6:decide (nn<0)
       ·cases a7:decide (4611686018427387903<nn)
        ·(go_wp2_with fail;go_meet;refine⟨?_,rfl⟩;rw[hB0.out];simp[*];done)
        ·(go_wp2_with fail;go_meet;refine⟨?_,rfl⟩;rw[hB0.out];simp[*];done)
       ·(go_wp2_with fail;go_meet;refine⟨?_,rfl⟩;rw[hB0.out];simp[*];done)
      ·(go_wp2_with fail;go_meet;refine⟨?_,rfl⟩;rw[hB0.out];simp[*];done)
    ·(go_wp2_with fail;go_meet;refine⟨?_,rfl⟩;rw[hB0.out];simp[*];done)
   ·(go_wp2_with fail;go_meet;refine⟨?_,rfl⟩;rw[hB0.out];simp[*];done)
  ·(go_wp2_with fail;go_meet;refine⟨?_,rfl⟩;rw[hB0.out];simp[*];done)
 obtain⟨rfl,rfl⟩:=hcut
 cases bad
 rotate_left
 ·have hr:res=false:=hres.out
  subst hr
  go_wp2_with fail
  go_returns
  exact⟨rfl,hw⟩
 have hkr:1<=kd/\kd<=19:=by have h:=hB0.out;simp at h;omega
 replace hres:Hid (res=(kidsIn n ks&&body)):=hres
 replace hkr:=kH hkr
 clear hB0 hw1
 go_wp2_with fail
 go_loopw [46] (fun ii wr=>∃j:Nat,j<=m/\ii=.int .i64 j/\Hid (∀k∈ks.take j,(decide (0<=k)&&decide (k<(n:Int)))=true)/\Below w.heap.size w wr/\RowAt wr w.heap.size 0 [tv,.slice na n nc]/\RowAt wr (w.heap.size+1) 0 [.int .i64 kd,.int .i64 at_,.int .i64 nn,.string s,.slice ka m kc,.slice pa pm pc]) (fun ii _=>m-(intOf ii).toNat)
 case atStart=>exact⟨0,by omega,rfl,fun y hy=>by simp at hy,hw,D,E⟩
 case round=>
  clear hw D E d_0 d_1 e_0 e_1 e_2 e_3 e_4 e_5 hsD hsE
  obtain⟨j,hj,rfl,hF,hw,D,E⟩:=hrel
  have hsz:=hw.size
  obtain⟨d_0,d_1⟩:=D.box2;have hsD:=bLt d_0;obtain⟨e_0,e_1,e_2,e_3,e_4,e_5⟩:=E.box6;have hsE:=bLt e_0
  by_cases hjm:j<m
  ·obtain⟨b1,o1,k,r,_,rfl,P1,⟨rfl,hk64⟩,r1⟩:=(k0.out.below IntR.good hw).get hm.out hjm
   have f_0:wr.cell? ⟨b1,o1+j,none⟩=some (.int .i64 k):=by simpa using r1 0 _ rfl
   have hbb1:=World.block_lt_of_cell? _ _ f_0;dsimp only at hbb1
   have P1':=P1.out
   have hgood:=fun h=>all_stepL (f:=fun k=>decide (0<=k)&&decide (k<(n:Int))) hF.out P1' h
   have hbadk:(decide (0<=k)&&decide (k<(n:Int)))=false->res=false:=fun h=>by
    have h1:kidsIn n ks=false:=all_bad (f:=fun k=>decide (0<=k)&&decide (k<(n:Int))) P1' h
    rw[hres.out,h1];rfl
   clear r1 P1 P1' hF
   replace hgood:=kH hgood;replace hbadk:=kH hbadk
   by_cases hk0:k<0
   ·have d1:decide (k<0)=true:=decide_eq_true hk0
    have hr:=hbadk.out (by rw[decide_eq_false (by omega)];rfl)
    subst hr
    clear hbadk hgood hk0 hres
    go_wp2_with fail
    go_returns
    exact⟨rfl,hw⟩
   ·have d1:decide (k<0)=false:=decide_eq_false hk0
    by_cases hkn:(n:Int)<=k
    ·have d2:decide ((n:Int)<=k)=true:=decide_eq_true hkn
     have hr:=hbadk.out (by rw[decide_eq_false (by omega : ¬ k<(n:Int))];simp)
     subst hr
     clear hbadk hgood hk0 hkn hres
     go_wp2_with fail
     go_returns
     exact⟨rfl,hw⟩
    ·have d2:decide ((n:Int)<=k)=false:=decide_eq_false hkn
     have hF:=kH (hgood.out (by rw[decide_eq_true (by omega),decide_eq_true (by omega)];rfl))
     clear hbadk hgood hk0 hkn
     go_wp2_with fail
     go_roundw
     case rel=>exact⟨j+1,by omega,by go_num,hF,hw,D,E⟩
     case measure=>simp[intOf];omega
  ·obtain rfl:j=m:=by omega
   have hki:kidsIn n ks=true:=all_full (f:=fun k=>decide (0<=k)&&decide (k<(n:Int))) hF.out hm.out
   have hinA:∀k∈ks,0<=k/\k<(n:Int):=fun k hk=>by
    have:=List.all_eq_true.1 hki k hk
    simpa using this
   have hrb:res=body:=by rw[hres.out,hki];rfl
   replace hfk:Hid (0<j->∃ (j:Nat) (b o b2 o2:Nat) (y:Int),ka=some ⟨b,o,none⟩/\na=some ⟨b2,o2,none⟩/\w.cell? ⟨b,o,none⟩=some (.int .i64 (j:Int))/\j<n/\w.cell? ⟨b2,o2+j*6,none⟩=some (.int .i64 y)/\fk=y):=kH fun h=>hfk.out h hinA
   clear hres hki hinA hF k0
   replace hrb:=kH hrb
   have hm1:((j:Int) == 1)=decide (j=1):=by rw[Bool.eq_iff_iff];simp;omega
   replace hm1:=kH hm1
   generalize hpz:((pm:Int) == 0)=pz at *
   clear hm
   have e:∀j:Int,¬ kd=j->(kd == j)=false:=fun j h=>beq_eq_false_iff_ne.2 h
   have e' : ∀j:Int,¬ kd=j->(kd != j)=true:=fun j h=>by simpa using h
   have hg:=hg.out
   replace hBody:body=(s.toList.isEmpty&&(pz&&(j:Int) == ar)):=by
    rw[hBody.out,if_neg (by omega),if_neg (by omega),if_neg (by omega),if_neg (by omega),if_neg (by omega),if_neg (by omega)]
   have e3:=e 3 (by omega);have e5:=e 5 (by omega);have e7:=e 7 (by omega);have e8:=e 8 (by omega);have e15:=e 15 (by omega);have e10:=e 10 (by omega);have e4:=e 4 (by omega);have e13:=e 13 (by omega)
   have d10:=e' 10 (by omega);have d2:=e' 2 (by omega);have d4:=e' 4 (by omega)
   clear e e' hg hkr
   generalize hka:((j:Int) == ar)=za at *
   cases hse:s.toList.isEmpty<;>cases pz
   all_goals rw[hse]at hBody
   all_goals replace hBody:=kH hBody
   all_goals go_upto_region 12 with fail
   all_goals go_wp2_with fail
   all_goals first|(go_returns;exact⟨by rw[hrb.out,hBody.out];rfl,hw⟩)|skip
   all_goals (refine wp_region_ext_lit (by kernel_rfl) (by kernel_rfl) ?_;(repeat (any_goals (first|go_big_quiet_step ((first|fail))|quiet_step ((first|fail))|(refine wpQuiet_step (fun K hK=>?_);go_simp;split<;>(refine hK _ ?_;clear hK K)))));all_goals (refine wpQuiet_nil ?_;rintro w1 ⟨⟨w2,hb⟩,rfl⟩;have hw:=hw.trans (hb.mono hw.size);have D:=D.below hb;obtain⟨d_0,d_1⟩:=D.box2;have hsD:=bLt d_0;have E:=E.below hb;obtain⟨e_0,e_1,e_2,e_3,e_4,e_5⟩:=E.box6;have hsE:=bLt e_0;clear hb))
   all_goals go_wp2_with fail
   all_goals (refine wp_region_ext_lit (by kernel_rfl) (by kernel_rfl) ?_;(repeat (any_goals (first|go_big_quiet_step ((first|(go_at_call 134;exact Calls.ext_same (cA _))))|quiet_step ((first|(go_at_call 134;exact Calls.ext_same (cA _))))|(refine wpQuiet_step (fun K hK=>?_);go_simp;split<;>(refine hK _ ?_;clear hK K)))));all_goals (refine wpQuiet_nil ?_;rintro w1 ⟨⟨w2,hb⟩,rfl⟩;have hw:=hw.trans (hb.mono hw.size);have D:=D.below hb;obtain⟨d_0,d_1⟩:=D.box2;have hsD:=bLt d_0;have E:=E.below hb;obtain⟨e_0,e_1,e_2,e_3,e_4,e_5⟩:=E.box6;have hsE:=bLt e_0;clear hb))
   all_goals go_wp2_with fail
   all_goals go_returns
   all_goals exact⟨by rw[hrb.out,hBody.out];rfl,hw⟩
theorem l04Node_named (x:GNode) (hx:x.wf) (N:List GNode) (hN:N.length<=1152921504606846976) (tv:Value) (na:Option Addr) (nc:Nat) (u0 u1:Value) (lo1 lo2:Nat) (w:World)
  (h0:Sl GNode.R 6 lo1 w (.slice na N.length nc) N) (hk:Sl IntR 1 lo2 w u0 x.kids) (hp:Sl GPat.R 1 lo2 w u1 x.pats) (hps:∀q∈x.pats,q.nodes.length<=1152921504606846976) (hg:x.kind=3\/x.kind=5\/x.kind=7\/x.kind=15) :
  Calls Tryz.prog 91 #[.agg #[tv,.slice na N.length nc],.agg #[.int .i64 x.kind,.int .i64 x.at_,.int .i64 x.n,.string x.s,u0,u1]] w fun e w'=>e=.returned (.bool (nodSpec N x))/\Below w.heap.size w w':=by
 obtain⟨kd,at_,nn,s,ks,ps⟩:=x
 obtain⟨pa,pc,rfl,pl,pmx,p0⟩:=hp
 obtain⟨ka,kc,rfl,kl,km,k0⟩:=hk
 obtain⟨hxk,hxa,hxn,hss⟩:=hx
 dsimp only at *
 replace hg:=kH hg
 have hres:=nodSpec_eq N ⟨kd,at_,nn,s,ks,ps⟩
 have hB0:badA ⟨kd,at_,nn,s,ks,ps⟩=(((((decide (kd<1)||decide (19<kd))||decide (at_<0))||(kd != 1&&nn != 0))||decide (nn<0))||decide (4611686018427387903<nn)):=rfl
 generalize nodSpec N ⟨kd,at_,nn,s,ks,ps⟩=res at *
 generalize badA ⟨kd,at_,nn,s,ks,ps⟩=bad at *
 have hfk:0<ks.length->(∀k∈ks,0<=k/\k<(N.length:Int))->∃ (j:Nat) (b o b2 o2:Nat) (y:Int),ka=some ⟨b,o,none⟩/\na=some ⟨b2,o2,none⟩/\w.cell? ⟨b,o,none⟩=some (.int .i64 (j:Int))/\j<N.length/\w.cell? ⟨b2,o2+j*6,none⟩=some (.int .i64 y)/\firstK N ks=y:=fun h hin=>by
  obtain⟨b1,o1,z,r,_,rfl,P1,⟨rfl,_⟩,r1⟩:=k0.get (kH rfl) h
  obtain⟨hz0,hz1⟩:=hin z (List.mem_of_getElem? P1.out)
  obtain⟨j,rfl⟩ : ∃j:Nat,z=j:=⟨z.toNat,by omega⟩
  obtain⟨na',nc',he,_,_,n0⟩:=h0
  obtain⟨rfl,rfl⟩ : na' = na/\nc' = nc:=by injection he with a b c;exact⟨a.symm,c.symm⟩
  obtain⟨b2,o2,y,r',_,rfl,P2,⟨v0,v1,rfl,_⟩,r2⟩:=n0.get (kH rfl) (show j<N.length by omega)
  refine⟨j,b1,o1,b2,o2,y.kind,rfl,rfl,by simpa using r1 0 _ rfl,by omega,by simpa using r2 0 _ rfl,?_⟩
  have hks:ks=(j:Int) :: ks.drop 1:=by
   have:=P1.out
   cases ks with
   |nil=>simp at h
   |cons a l=>simp at this;subst this;rfl
  rw[hks]
  show nkind N j=_
  unfold nkind
  rw[if_pos (by omega),Int.toNat_natCast,P2.out];rfl
 clear h0
 have hpn:((ps.length:Int) == 0)=true->patsOk ps=true:=patsOk_nil
 obtain⟨m,hm⟩ : ∃m,m=ks.length:=⟨_,rfl⟩
 obtain⟨n,hn⟩ : ∃n,n=N.length:=⟨_,rfl⟩
 obtain⟨pm,hpm⟩ : ∃pm,pm=ps.length:=⟨_,rfl⟩
 have hBody:nodRest N ⟨kd,at_,nn,s,ks,ps⟩ =
  if kd=3\/kd=5\/kd=7\/kd=15 then nameOk s&&((ps.length:Int) == 0&&(ks.length:Int) == arP kd)
  else if kd=8 then nameOk s&&(((ks.length:Int) == 2&&firstK N ks == 5)&&(ps.length:Int) == 0)
  else if kd=10 then primOk s&&((ps.length:Int) == 0&&(ks.length:Int) == arP kd)
  else if kd=2 then ((ps.length:Int) == 0&&(ks.length:Int) == arP kd)
  else if kd=4 then ((ps.length:Int) == 0&&conShape s ks.length ((ks.length:Int) == 1&&firstK N ks == 11))
  else if kd=13 then s.toList.isEmpty&&(patsOk ps&&(decide (2<=(ks.length:Int))&&(ps.length:Int) == (ks.length:Int)-1))
  else s.toList.isEmpty&&((ps.length:Int) == 0&&(ks.length:Int) == arP kd):=rfl
 generalize nodRest N ⟨kd,at_,nn,s,ks,ps⟩=body at *
 rw[<- hm,<- hpm]at hBody
 rw[<- hm,<- hn]at hfk
 rw[<- hn]at hres
 rw[<- hm]at kl
 rw[<- hpm]at pl
 rw[<- hm,<- hn,<- hpm]
 rw[<- hn]at hN
 have cA:=fun W=>l04Kids_c kd W
 have cN:=fun W=>spec_NameOk_c s hss W
 have cP:=fun W=>l04Prim_c s W
 have cS:=fun p W=>l04ConOk_c s m p hss W
 generalize firstK N ks=fk at *
 obtain⟨ar,har⟩ : ∃ar,arP kd=ar:=⟨_,rfl⟩
 rw[har]at hBody cA
 clear hn hpn
 replace hm:=kH hm;replace hpm:=kH hpm;replace hps:=kH hps
 replace hB0:=kH hB0;replace hBody:=kH hBody;replace hres:=kH hres;replace hfk:=kH hfk;replace har:=kH har;replace k0:=kH k0;replace p0:=kH p0
 go_enter Tryz.func91,Tryz.ntmps91
 go_upto_region 1 with fail
 have D:RowAt (w.alloc (.cells #[tv,.slice na n nc] 39)) (w.heap.size) 0 [tv,.slice na n nc]:=RowAt.box w #[tv,.slice na n nc] 39
 have D:=D.below (show Below (w.alloc (.cells #[tv,.slice na n nc] 39)).heap.size (w.alloc (.cells #[tv,.slice na n nc] 39)) ((w.alloc (.cells #[tv,.slice na n nc] 39)).alloc (.cells #[.int .i64 kd,.int .i64 at_,.int .i64 nn,.string s,.slice ka m kc,.slice pa pm pc] 123)) by go_grown)
 have E:RowAt ((w.alloc (.cells #[tv,.slice na n nc] 39)).alloc (.cells #[.int .i64 kd,.int .i64 at_,.int .i64 nn,.string s,.slice ka m kc,.slice pa pm pc] 123)) (w.heap.size+1) 0 [.int .i64 kd,.int .i64 at_,.int .i64 nn,.string s,.slice ka m kc,.slice pa pm pc]:=by have h:=RowAt.box (w.alloc (.cells #[tv,.slice na n nc] 39)) #[.int .i64 kd,.int .i64 at_,.int .i64 nn,.string s,.slice ka m kc,.slice pa pm pc] 123;simp only[World.size_alloc]at h;exact h
 have hw:Below w.heap.size w ((w.alloc (.cells #[tv,.slice na n nc] 39)).alloc (.cells #[.int .i64 kd,.int .i64 at_,.int .i64 nn,.string s,.slice ka m kc,.slice pa pm pc] 123)):=by go_grown
 generalize ((w.alloc (.cells #[tv,.slice na n nc] 39)).alloc (.cells #[.int .i64 kd,.int .i64 at_,.int .i64 nn,.string s,.slice ka m kc,.slice pa pm pc] 123))=w0 at *
 have hw1:Below w.heap.size w w0:=hw
 obtain⟨d_0,d_1⟩:=D.box2;have hsD:=bLt d_0;obtain⟨e_0,e_1,e_2,e_3,e_4,e_5⟩:=E.box6;have hsE:=bLt e_0
 go_cut [42] (fun sx wx=>sx=.bool bad/\wx=w0)
 case first=>
  cases a1:decide (kd<1)
  ·cases a2:decide (19<kd)
   ·cases a3:decide (at_<0)
    ·cases a4:(kd != 1)
     ·cases a6:decide (nn<0)
      ·cases a7:decide (4611686018427387903<nn)
       ·(go_wp2_with fail;go_meet;refine⟨?_,rfl⟩;rw[hB0.out];simp[*];done)
       ·(go_wp2_with fail;go_meet;refine⟨?_,rfl⟩;rw[hB0.out];simp[*];done)
      ·(go_wp2_with fail;go_meet;refine⟨?_,rfl⟩;rw[hB0.out];simp[*];done)
     ·cases a5:(nn != 0)
      ·cases a6:decide (nn<0)
       ·cases a7:decide (4611686018427387903<nn)
        ·(go_wp2_with fail;go_meet;refine⟨?_,rfl⟩;rw[hB0.out];simp[*];done)
        ·(go_wp2_with fail;go_meet;refine⟨?_,rfl⟩;rw[hB0.out];simp[*];done)
       ·(go_wp2_with fail;go_meet;refine⟨?_,rfl⟩;rw[hB0.out];simp[*];done)
      ·(go_wp2_with fail;go_meet;refine⟨?_,rfl⟩;rw[hB0.out];simp[*];done)
    ·(go_wp2_with fail;go_meet;refine⟨?_,rfl⟩;rw[hB0.out];simp[*];done)
   ·(go_wp2_with fail;go_meet;refine⟨?_,rfl⟩;rw[hB0.out];simp[*];done)
  ·(go_wp2_with fail;go_meet;refine⟨?_,rfl⟩;rw[hB0.out];simp[*];done)
 obtain⟨rfl,rfl⟩:=hcut
 cases bad
 rotate_left
 ·have hr:res=false:=hres.out
  subst hr
  go_wp2_with fail
  go_returns
  exact⟨rfl,hw⟩
 have hkr:1<=kd/\kd<=19:=by have h:=hB0.out;simp at h;omega
 replace hres:Hid (res=(kidsIn n ks&&body)):=hres
 replace hkr:=kH hkr
 clear hB0 hw1
 go_wp2_with fail
 go_loopw [46] (fun ii wr=>∃j:Nat,j<=m/\ii=.int .i64 j/\Hid (∀k∈ks.take j,(decide (0<=k)&&decide (k<(n:Int)))=true)/\Below w.heap.size w wr/\RowAt wr w.heap.size 0 [tv,.slice na n nc]/\RowAt wr (w.heap.size+1) 0 [.int .i64 kd,.int .i64 at_,.int .i64 nn,.string s,.slice ka m kc,.slice pa pm pc]) (fun ii _=>m-(intOf ii).toNat)
 case atStart=>exact⟨0,by omega,rfl,fun y hy=>by simp at hy,hw,D,E⟩
 case round=>
  clear hw D E d_0 d_1 e_0 e_1 e_2 e_3 e_4 e_5 hsD hsE
  obtain⟨j,hj,rfl,hF,hw,D,E⟩:=hrel
  have hsz:=hw.size
  obtain⟨d_0,d_1⟩:=D.box2;have hsD:=bLt d_0;obtain⟨e_0,e_1,e_2,e_3,e_4,e_5⟩:=E.box6;have hsE:=bLt e_0
  by_cases hjm:j<m
  ·obtain⟨b1,o1,k,r,_,rfl,P1,⟨rfl,hk64⟩,r1⟩:=(k0.out.below IntR.good hw).get hm.out hjm
   have f_0:wr.cell? ⟨b1,o1+j,none⟩=some (.int .i64 k):=by simpa using r1 0 _ rfl
   have hbb1:=World.block_lt_of_cell? _ _ f_0;dsimp only at hbb1
   have P1':=P1.out
   have hgood:=fun h=>all_stepL (f:=fun k=>decide (0<=k)&&decide (k<(n:Int))) hF.out P1' h
   have hbadk:(decide (0<=k)&&decide (k<(n:Int)))=false->res=false:=fun h=>by
    have h1:kidsIn n ks=false:=all_bad (f:=fun k=>decide (0<=k)&&decide (k<(n:Int))) P1' h
    rw[hres.out,h1];rfl
   clear r1 P1 P1' hF
   replace hgood:=kH hgood;replace hbadk:=kH hbadk
   by_cases hk0:k<0
   ·have d1:decide (k<0)=true:=decide_eq_true hk0
    have hr:=hbadk.out (by rw[decide_eq_false (by omega)];rfl)
    subst hr
    clear hbadk hgood hk0 hres
    go_wp2_with fail
    go_returns
    exact⟨rfl,hw⟩
   ·have d1:decide (k<0)=false:=decide_eq_false hk0
    by_cases hkn:(n:Int)<=k
    ·have d2:decide ((n:Int)<=k)=true:=decide_eq_true hkn
     have hr:=hbadk.out (by rw[decide_eq_false (by omega : ¬ k<(n:Int))];simp)
     subst hr
     clear hbadk hgood hk0 hkn hres
     go_wp2_with fail
     go_returns
     exact⟨rfl,hw⟩
    ·have d2:decide ((n:Int)<=k)=false:=decide_eq_false hkn
     have hF:=kH (hgood.out (by rw[decide_eq_true (by omega),decide_eq_true (by omega)];rfl))
     clear hbadk hgood hk0 hkn
     go_wp2_with fail
     go_roundw
     case rel=>exact⟨j+1,by omega,by go_num,hF,hw,D,E⟩
     case measure=>simp[intOf];omega
  ·obtain rfl:j=m:=by omega
   have hki:kidsIn n ks=true:=all_full (f:=fun k=>decide (0<=k)&&decide (k<(n:Int))) hF.out hm.out
   have hinA:∀k∈ks,0<=k/\k<(n:Int):=fun k hk=>by
    have:=List.all_eq_true.1 hki k hk
    simpa using this
   have hrb:res=body:=by rw[hres.out,hki];rfl
   replace hfk:Hid (0<j->∃ (j:Nat) (b o b2 o2:Nat) (y:Int),ka=some ⟨b,o,none⟩/\na=some ⟨b2,o2,none⟩/\w.cell? ⟨b,o,none⟩=some (.int .i64 (j:Int))/\j<n/\w.cell? ⟨b2,o2+j*6,none⟩=some (.int .i64 y)/\fk=y):=kH fun h=>hfk.out h hinA
   clear hres hki hinA hF k0
   replace hrb:=kH hrb
   have hm1:((j:Int) == 1)=decide (j=1):=by rw[Bool.eq_iff_iff];simp;omega
   replace hm1:=kH hm1
   generalize hpz:((pm:Int) == 0)=pz at *
   clear hm
   have e:∀j:Int,¬ kd=j->(kd == j)=false:=fun j h=>beq_eq_false_iff_ne.2 h
   have hg:=hg.out
   replace hBody:body=(nameOk s&&(pz&&(j:Int) == ar)):=by
    rw[hBody.out,if_pos (by omega)]
   have e8:=e 8 (by omega);have e10:=e 10 (by omega);have e4:=e 4 (by omega);have e13:=e 13 (by omega)
   clear hkr
   go_upto_region 9 with fail
   go_cut [7] (fun sx wx=>sx=.bool true/\wx=wr)
   case first=>
    rcases hg with rfl|rfl|rfl|rfl
    all_goals clear e e8 e10 e4 e13
    all_goals go_wp2_with fail
    all_goals go_meet
    all_goals exact⟨rfl,rfl⟩
   obtain⟨rfl,rfl⟩:=hcut
   clear e hg
   generalize nameOk s=no at *
   generalize hka:((j:Int) == ar)=za at *
   cases no<;>cases pz
   all_goals replace hBody:=kH hBody
   all_goals go_upto_region 10 with fail
   all_goals go_wp2_with (go_at_call 89;((with_reducible refine(cN _).mono ?_);rintro e w1 ⟨rfl,hb⟩;have hw:=hw.trans (hb.mono hw.size);have D:=D.below hb;obtain⟨d_0,d_1⟩:=D.box2;have hsD:=bLt d_0;have E:=E.below hb;obtain⟨e_0,e_1,e_2,e_3,e_4,e_5⟩:=E.box6;have hsE:=bLt e_0;clear hb))
   all_goals go_wp2_with fail
   all_goals first|(go_returns;exact⟨by rw[hrb.out,hBody.out];rfl,hw⟩)|skip
   all_goals (refine wp_region_ext_lit (by kernel_rfl) (by kernel_rfl) ?_;(repeat (any_goals (first|go_big_quiet_step ((first|fail))|quiet_step ((first|fail))|(refine wpQuiet_step (fun K hK=>?_);go_simp;split<;>(refine hK _ ?_;clear hK K)))));all_goals (refine wpQuiet_nil ?_;rintro w1 ⟨⟨w2,hb⟩,rfl⟩;have hw:=hw.trans (hb.mono hw.size);have D:=D.below hb;obtain⟨d_0,d_1⟩:=D.box2;have hsD:=bLt d_0;have E:=E.below hb;obtain⟨e_0,e_1,e_2,e_3,e_4,e_5⟩:=E.box6;have hsE:=bLt e_0;clear hb))
   all_goals go_wp2_with fail
   all_goals (refine wp_region_ext_lit (by kernel_rfl) (by kernel_rfl) ?_;(repeat (any_goals (first|go_big_quiet_step ((first|(go_at_call 134;exact Calls.ext_same (cA _))))|quiet_step ((first|(go_at_call 134;exact Calls.ext_same (cA _))))|(refine wpQuiet_step (fun K hK=>?_);go_simp;split<;>(refine hK _ ?_;clear hK K)))));all_goals (refine wpQuiet_nil ?_;rintro w1 ⟨⟨w2,hb⟩,rfl⟩;have hw:=hw.trans (hb.mono hw.size);have D:=D.below hb;obtain⟨d_0,d_1⟩:=D.box2;have hsD:=bLt d_0;have E:=E.below hb;obtain⟨e_0,e_1,e_2,e_3,e_4,e_5⟩:=E.box6;have hsE:=bLt e_0;clear hb))
   all_goals go_wp2_with fail
   all_goals go_returns
   all_goals exact⟨by rw[hrb.out,hBody.out];rfl,hw⟩
end Go.Proofs.YtkikkfjmggobpaaGreat
