/- Parts of the proof, merged: Node6, Node7. -/
import Derived.Test.YtkikkfjmggobpaaGreatDt26
namespace Go.Proofs.YtkikkfjmggobpaaGreat
open Go.RowKit
set_option maxRecDepth 100000
set_option maxHeartbeats 16000000
set_option linter.unusedVariables false
set_option linter.unusedSimpArgs false
attribute [local go_sem] Ext.cell
theorem l04Node_8 (x:GNode) (hx:x.wf) (N:List GNode) (hN:N.length<=1152921504606846976) (tv:Value) (na:Option Addr) (nc:Nat) (u0 u1:Value) (lo1 lo2:Nat) (w:World)
  (h0:Sl GNode.R 6 lo1 w (.slice na N.length nc) N) (hk:Sl IntR 1 lo2 w u0 x.kids) (hp:Sl GPat.R 1 lo2 w u1 x.pats) (hps:∀q∈x.pats,q.nodes.length<=1152921504606846976) (hg:x.kind=8) :
  Calls Tryz.prog 91 #[.agg #[tv,.slice na N.length nc],.agg #[.int .i64 x.kind,.int .i64 x.at_,.int .i64 x.n,.string x.s,u0,u1]] w fun e w'=>e=.returned (.bool (nodSpec N x))/\Below w.heap.size w w':=by
 obtain⟨kd,at_,nn,s,ks,ps⟩:=x
 obtain⟨pa,pc,rfl,pl,pmx,p0⟩:=hp
 obtain⟨ka,kc,rfl,kl,km,k0⟩:=hk
 obtain⟨hxk,hxa,hxn,hss⟩:=hx
 dsimp only at *
 replace hg:=kH hg
 have hres:=nodSpec_eq N ⟨kd,at_,nn,s,ks,ps⟩
 have hB0:badA ⟨kd,at_,nn,s,ks,ps⟩=(((((decide (kd<1)||decide (19<kd))||decide (at_<0))||(kd != 1&&nn != 0))||decide (nn<0))||decide (4611686018427387903<nn)):=rfl
 generalize nodSpec N ⟨kd,at_,nn,s,ks,ps⟩=res at *
 generalize badA ⟨kd,at_,nn,s,ks,ps⟩=bad at *
 have hfk:0<ks.length->(∀k∈ks,0<=k/\k<(N.length:Int))->∃ (j:Nat) (b o b2 o2:Nat) (y:Int),ka=some ⟨b,o,none⟩/\na=some ⟨b2,o2,none⟩/\w.cell? ⟨b,o,none⟩=some (.int .i64 (j:Int))/\j<N.length/\w.cell? ⟨b2,o2+j*6,none⟩=some (.int .i64 y)/\firstK N ks=y:=fun h hin=>by
  obtain⟨b1,o1,z,r,_,rfl,P1,⟨rfl,_⟩,r1⟩:=k0.get (kH rfl) h
  obtain⟨hz0,hz1⟩:=hin z (List.mem_of_getElem? P1.out)
  obtain⟨j,rfl⟩ : ∃j:Nat,z=j:=⟨z.toNat,by omega⟩
  obtain⟨na',nc',he,_,_,n0⟩:=h0
  obtain⟨rfl,rfl⟩ : na' = na/\nc' = nc:=by injection he with a b c;exact⟨a.symm,c.symm⟩
  obtain⟨b2,o2,y,r',_,rfl,P2,⟨v0,v1,rfl,_⟩,r2⟩:=n0.get (kH rfl) (show j<N.length by omega)
  refine⟨j,b1,o1,b2,o2,y.kind,rfl,rfl,by simpa using r1 0 _ rfl,by omega,by simpa using r2 0 _ rfl,?_⟩
  have hks:ks=(j:Int) :: ks.drop 1:=by
   have:=P1.out
   cases ks with
   |nil=>simp at h
   |cons a l=>simp at this;subst this;rfl
  rw[hks]
  show nkind N j=_
  unfold nkind
  rw[if_pos (by omega),Int.toNat_natCast,P2.out];rfl
 clear h0
 have hpn:((ps.length:Int) == 0)=true->patsOk ps=true:=patsOk_nil
 obtain⟨m,hm⟩ : ∃m,m=ks.length:=⟨_,rfl⟩
 obtain⟨n,hn⟩ : ∃n,n=N.length:=⟨_,rfl⟩
 obtain⟨pm,hpm⟩ : ∃pm,pm=ps.length:=⟨_,rfl⟩
 have hBody:nodRest N ⟨kd,at_,nn,s,ks,ps⟩ =
  if kd=3\/kd=5\/kd=7\/kd=15 then nameOk s&&((ps.length:Int) == 0&&(ks.length:Int) == arP kd)
  else if kd=8 then nameOk s&&(((ks.length:Int) == 2&&firstK N ks == 5)&&(ps.length:Int) == 0)
  else if kd=10 then primOk s&&((ps.length:Int) == 0&&(ks.length:Int) == arP kd)
  else if kd=2 then ((ps.length:Int) == 0&&(ks.length:Int) == arP kd)
  else if kd=4 then ((ps.length:Int) == 0&&conShape s ks.length ((ks.length:Int) == 1&&firstK N ks == 11))
  else if kd=13 then s.toList.isEmpty&&(patsOk ps&&(decide (2<=(ks.length:Int))&&(ps.length:Int) == (ks.length:Int)-1))
  else s.toList.isEmpty&&((ps.length:Int) == 0&&(ks.length:Int) == arP kd):=rfl
 generalize nodRest N ⟨kd,at_,nn,s,ks,ps⟩=body at *
 rw[<- hm,<- hpm]at hBody
 rw[<- hm,<- hn]at hfk
 rw[<- hn]at hres
 rw[<- hm]at kl
 rw[<- hpm]at pl
 rw[<- hm,<- hn,<- hpm]
 rw[<- hn]at hN
 have cA:=fun W=>l04Kids_c kd W
 have cN:=fun W=>spec_NameOk_c s hss W
 have cP:=fun W=>l04Prim_c s W
 have cS:=fun p W=>l04ConOk_c s m p hss W
 generalize firstK N ks=fk at *
 obtain⟨ar,har⟩ : ∃ar,arP kd=ar:=⟨_,rfl⟩
 rw[har]at hBody cA
 clear hn hpn
 replace hm:=kH hm;replace hpm:=kH hpm;replace hps:=kH hps
 replace hB0:=kH hB0;replace hBody:=kH hBody;replace hres:=kH hres;replace hfk:=kH hfk;replace har:=kH har;replace k0:=kH k0;replace p0:=kH p0
 go_enter Tryz.func91,Tryz.ntmps91
 go_upto_region 1 with fail
 have D:RowAt (w.alloc (.cells #[tv,.slice na n nc] 39)) (w.heap.size) 0 [tv,.slice na n nc]:=RowAt.box w #[tv,.slice na n nc] 39
 have D:=D.below (show Below (w.alloc (.cells #[tv,.slice na n nc] 39)).heap.size (w.alloc (.cells #[tv,.slice na n nc] 39)) ((w.alloc (.cells #[tv,.slice na n nc] 39)).alloc (.cells #[.int .i64 kd,.int .i64 at_,.int .i64 nn,.string s,.slice ka m kc,.slice pa pm pc] 123)) by go_grown)
 have E:RowAt ((w.alloc (.cells #[tv,.slice na n nc] 39)).alloc (.cells #[.int .i64 kd,.int .i64 at_,.int .i64 nn,.string s,.slice ka m kc,.slice pa pm pc] 123)) (w.heap.size+1) 0 [.int .i64 kd,.int .i64 at_,.int .i64 nn,.string s,.slice ka m kc,.slice pa pm pc]:=by have h:=RowAt.box (w.alloc (.cells #[tv,.slice na n nc] 39)) #[.int .i64 kd,.int .i64 at_,.int .i64 nn,.string s,.slice ka m kc,.slice pa pm pc] 123;simp only[World.size_alloc]at h;exact h
 have hw:Below w.heap.size w ((w.alloc (.cells #[tv,.slice na n nc] 39)).alloc (.cells #[.int .i64 kd,.int .i64 at_,.int .i64 nn,.string s,.slice ka m kc,.slice pa pm pc] 123)):=by go_grown
 generalize ((w.alloc (.cells #[tv,.slice na n nc] 39)).alloc (.cells #[.int .i64 kd,.int .i64 at_,.int .i64 nn,.string s,.slice ka m kc,.slice pa pm pc] 123))=w0 at *
 have hw1:Below w.heap.size w w0:=hw
 obtain⟨d_0,d_1⟩:=D.box2;have hsD:=bLt d_0;obtain⟨e_0,e_1,e_2,e_3,e_4,e_5⟩:=E.box6;have hsE:=bLt e_0
 go_cut [42] (fun sx wx=>sx=.bool bad/\wx=w0)
 case first=>
  cases a1:decide (kd<1)
  ·cases a2:decide (19<kd)
   ·cases a3:decide (at_<0)
    ·cases a4:(kd != 1)
     ·cases a6:decide (nn<0)
      ·cases a7:decide (4611686018427387903<nn)
       ·(go_wp2_with fail;go_meet;refine⟨?_,rfl⟩;rw[hB0.out];simp[*];done)
       ·(go_wp2_with fail;go_meet;refine⟨?_,rfl⟩;rw[hB0.out];simp[*];done)
      ·(go_wp2_with fail;go_meet;refine⟨?_,rfl⟩;rw[hB0.out];simp[*];done)
     ·cases a5:(nn != 0)
      ·cases a6:decide (nn<0)
       ·cases a7:decide (4611686018427387903<nn)
        ·(go_wp2_with fail;go_meet;refine⟨?_,rfl⟩;rw[hB0.out];simp[*];done)
        ·(go_wp2_with fail;go_meet;refine⟨?_,rfl⟩;rw[hB0.out];simp[*];done)
       ·(go_wp2_with fail;go_meet;refine⟨?_,rfl⟩;rw[hB0.out];simp[*];done)
      ·(go_wp2_with fail;go_meet;refine⟨?_,rfl⟩;rw[hB0.out];simp[*];done)
    ·(go_wp2_with fail;go_meet;refine⟨?_,rfl⟩;rw[hB0.out];simp[*];done)
   ·(go_wp2_with fail;go_meet;refine⟨?_,rfl⟩;rw[hB0.out];simp[*];done)
  ·(go_wp2_with fail;go_meet;refine⟨?_,rfl⟩;rw[hB0.out];simp[*];done)
 obtain⟨rfl,rfl⟩:=hcut
 cases bad
 rotate_left
 ·have hr:res=false:=hres.out
  subst hr
  go_wp2_with fail
  go_returns
  exact⟨rfl,hw⟩
 have hkr:1<=kd/\kd<=19:=by have h:=hB0.out;simp at h;omega
 replace hres:Hid (res=(kidsIn n ks&&body)):=hres
 replace hkr:=kH hkr
 clear hB0 hw1
 go_wp2_with fail
 go_loopw [46] (fun ii wr=>∃j:Nat,j<=m/\ii=.int .i64 j/\Hid (∀k∈ks.take j,(decide (0<=k)&&decide (k<(n:Int)))=true)/\Below w.heap.size w wr/\RowAt wr w.heap.size 0 [tv,.slice na n nc]/\RowAt wr (w.heap.size+1) 0 [.int .i64 kd,.int .i64 at_,.int .i64 nn,.string s,.slice ka m kc,.slice pa pm pc]) (fun ii _=>m-(intOf ii).toNat)
 case atStart=>exact⟨0,by omega,rfl,fun y hy=>by simp at hy,hw,D,E⟩
 case round=>
  clear hw D E d_0 d_1 e_0 e_1 e_2 e_3 e_4 e_5 hsD hsE
  obtain⟨j,hj,rfl,hF,hw,D,E⟩:=hrel
  have hsz:=hw.size
  obtain⟨d_0,d_1⟩:=D.box2;have hsD:=bLt d_0;obtain⟨e_0,e_1,e_2,e_3,e_4,e_5⟩:=E.box6;have hsE:=bLt e_0
  by_cases hjm:j<m
  ·obtain⟨b1,o1,k,r,_,rfl,P1,⟨rfl,hk64⟩,r1⟩:=(k0.out.below IntR.good hw).get hm.out hjm
   have f_0:wr.cell? ⟨b1,o1+j,none⟩=some (.int .i64 k):=by simpa using r1 0 _ rfl
   have hbb1:=World.block_lt_of_cell? _ _ f_0;dsimp only at hbb1
   have P1':=P1.out
   have hgood:=fun h=>all_stepL (f:=fun k=>decide (0<=k)&&decide (k<(n:Int))) hF.out P1' h
   have hbadk:(decide (0<=k)&&decide (k<(n:Int)))=false->res=false:=fun h=>by
    have h1:kidsIn n ks=false:=all_bad (f:=fun k=>decide (0<=k)&&decide (k<(n:Int))) P1' h
    rw[hres.out,h1];rfl
   clear r1 P1 P1' hF
   replace hgood:=kH hgood;replace hbadk:=kH hbadk
   by_cases hk0:k<0
   ·have d1:decide (k<0)=true:=decide_eq_true hk0
    have hr:=hbadk.out (by rw[decide_eq_false (by omega)];rfl)
    subst hr
    clear hbadk hgood hk0 hres
    go_wp2_with fail
    go_returns
    exact⟨rfl,hw⟩
   ·have d1:decide (k<0)=false:=decide_eq_false hk0
    by_cases hkn:(n:Int)<=k
    ·have d2:decide ((n:Int)<=k)=true:=decide_eq_true hkn
     have hr:=hbadk.out (by rw[decide_eq_false (by omega : ¬ k<(n:Int))];simp)
     subst hr
     clear hbadk hgood hk0 hkn hres
     go_wp2_with fail
     go_returns
     exact⟨rfl,hw⟩
    ·have d2:decide ((n:Int)<=k)=false:=decide_eq_false hkn
     have hF:=kH (hgood.out (by rw[decide_eq_true (by omega),decide_eq_true (by omega)];rfl))
     clear hbadk hgood hk0 hkn
     go_wp2_with fail
     go_roundw
     case rel=>exact⟨j+1,by omega,by go_num,hF,hw,D,E⟩
     case measure=>simp[intOf];omega
  ·obtain rfl:j=m:=by omega
   have hki:kidsIn n ks=true:=all_full (f:=fun k=>decide (0<=k)&&decide (k<(n:Int))) hF.out hm.out
   have hinA:∀k∈ks,0<=k/\k<(n:Int):=fun k hk=>by
    have:=List.all_eq_true.1 hki k hk
    simpa using this
   have hrb:res=body:=by rw[hres.out,hki];rfl
   replace hfk:Hid (0<j->∃ (j:Nat) (b o b2 o2:Nat) (y:Int),ka=some ⟨b,o,none⟩/\na=some ⟨b2,o2,none⟩/\w.cell? ⟨b,o,none⟩=some (.int .i64 (j:Int))/\j<n/\w.cell? ⟨b2,o2+j*6,none⟩=some (.int .i64 y)/\fk=y):=kH fun h=>hfk.out h hinA
   clear hres hki hinA hF k0
   replace hrb:=kH hrb
   have hm1:((j:Int) == 1)=decide (j=1):=by rw[Bool.eq_iff_iff];simp;omega
   replace hm1:=kH hm1
   generalize hpz:((pm:Int) == 0)=pz at *
   clear hm
   have hg:=hg.out
   subst hg
   replace hBody:body=(nameOk s&&(((j:Int) == 2&&fk == 5)&&pz)):=hBody.out
   generalize nameOk s=no at *
   have hmm:((j:Int) != 2) = !((j:Int) == 2):=rfl
   cases no
   ·replace hBody:Hid (body=false):=kH (by rw[hBody];rfl)
    clear hmm
    go_wp2_with (go_at_call 89;((with_reducible refine(cN _).mono ?_);rintro e w1 ⟨rfl,hb⟩;have hw:=hw.trans (hb.mono hw.size);have D:=D.below hb;obtain⟨d_0,d_1⟩:=D.box2;have hsD:=bLt d_0;have E:=E.below hb;obtain⟨e_0,e_1,e_2,e_3,e_4,e_5⟩:=E.box6;have hsE:=bLt e_0;clear hb))
    go_returns
    exact⟨by rw[hrb.out,hBody.out];rfl,hw⟩
   cases hj2:((j:Int) == 2)
   ·rw[hj2]at hmm hBody
    replace hmm:((j:Int) != 2)=true:=hmm
    replace hBody:Hid (body=false):=kH (by rw[hBody];rfl)
    go_wp2_with (go_at_call 89;((with_reducible refine(cN _).mono ?_);rintro e w1 ⟨rfl,hb⟩;have hw:=hw.trans (hb.mono hw.size);have D:=D.below hb;obtain⟨d_0,d_1⟩:=D.box2;have hsD:=bLt d_0;have E:=E.below hb;obtain⟨e_0,e_1,e_2,e_3,e_4,e_5⟩:=E.box6;have hsE:=bLt e_0;clear hb))
    (refine wp_region_ext_lit (by kernel_rfl) (by kernel_rfl) ?_;(repeat (any_goals (first|go_big_quiet_step ((first|fail))|quiet_step ((first|fail))|(refine wpQuiet_step (fun K hK=>?_);go_simp;split<;>(refine hK _ ?_;clear hK K)))));all_goals (refine wpQuiet_nil ?_;rintro w1 ⟨⟨w2,hb⟩,rfl⟩;have hw:=hw.trans (hb.mono hw.size);have D:=D.below hb;obtain⟨d_0,d_1⟩:=D.box2;have hsD:=bLt d_0;have E:=E.below hb;obtain⟨e_0,e_1,e_2,e_3,e_4,e_5⟩:=E.box6;have hsE:=bLt e_0;clear hb))
    go_wp2_with fail
    go_returns
    exact⟨by rw[hrb.out,hBody.out];rfl,hw⟩
   rw[hj2]at hmm hBody
   replace hmm:((j:Int) != 2)=false:=hmm
   obtain rfl:j=2:=by have:=eq_of_beq hj2;omega
   obtain⟨jj,b,o,b2,o2,y,rfl,rfl,c1,hjj,c2,rfl⟩:=hfk.out (by omega)
   have q1:decide ((jj:Int)<(n:Int))=true:=decide_eq_true (by omega)
   have hf5:(fk != 5) = !(fk == 5):=rfl
   clear hfk
   obtain rfl:ar=2:=har.out.symm
   cases h5:(fk == 5)
   ·rw[h5]at hf5 hBody
    replace hf5:(fk != 5)=true:=hf5
    replace hBody:Hid (body=false):=kH hBody
    go_upto_region 24 with(go_at_call 89;((with_reducible refine(cN _).mono ?_);rintro e w1 ⟨rfl,hb⟩;have hw:=hw.trans (hb.mono hw.size);have D:=D.below hb;obtain⟨d_0,d_1⟩:=D.box2;have hsD:=bLt d_0;have E:=E.below hb;obtain⟨e_0,e_1,e_2,e_3,e_4,e_5⟩:=E.box6;have hsE:=bLt e_0;clear hb))
    (replace c1:=cell_below hw c1;replace c2:=cell_below hw c2;have hbb:=World.block_lt_of_cell? _ _ c1;dsimp only at hbb;have hbb2:=World.block_lt_of_cell? _ _ c2;dsimp only at hbb2)
    (refine wp_region_ext_lit (by kernel_rfl) (by kernel_rfl) ?_;(repeat (any_goals (first|go_big_quiet_step ((first|fail))|quiet_step ((first|fail))|(refine wpQuiet_step (fun K hK=>?_);go_simp;split<;>(refine hK _ ?_;clear hK K)))));all_goals (refine wpQuiet_nil ?_;rintro w1 ⟨⟨w2,hb⟩,rfl⟩;have hw:=hw.trans (hb.mono hw.size);have D:=D.below hb;obtain⟨d_0,d_1⟩:=D.box2;have hsD:=bLt d_0;have E:=E.below hb;obtain⟨e_0,e_1,e_2,e_3,e_4,e_5⟩:=E.box6;have hsE:=bLt e_0;clear hb))
    go_wp2_with fail
    go_returns
    exact⟨by rw[hrb.out,hBody.out];rfl,hw⟩
   rw[h5]at hf5 hBody
   replace hf5:(fk != 5)=false:=hf5
   replace hBody:body=pz:=hBody
   cases pz
   all_goals replace hBody:=kH hBody
   all_goals go_upto_region 24 with(go_at_call 89;((with_reducible refine(cN _).mono ?_);rintro e w1 ⟨rfl,hb⟩;have hw:=hw.trans (hb.mono hw.size);have D:=D.below hb;obtain⟨d_0,d_1⟩:=D.box2;have hsD:=bLt d_0;have E:=E.below hb;obtain⟨e_0,e_1,e_2,e_3,e_4,e_5⟩:=E.box6;have hsE:=bLt e_0;clear hb))
   all_goals (replace c1:=cell_below hw c1;replace c2:=cell_below hw c2;have hbb:=World.block_lt_of_cell? _ _ c1;dsimp only at hbb;have hbb2:=World.block_lt_of_cell? _ _ c2;dsimp only at hbb2)
   all_goals (refine wp_region_ext_lit (by kernel_rfl) (by kernel_rfl) ?_;(repeat (any_goals (first|go_big_quiet_step ((first|fail))|quiet_step ((first|fail))|(refine wpQuiet_step (fun K hK=>?_);go_simp;split<;>(refine hK _ ?_;clear hK K)))));all_goals (refine wpQuiet_nil ?_;rintro w1 ⟨⟨w2,hb⟩,rfl⟩;have hw:=hw.trans (hb.mono hw.size);have D:=D.below hb;obtain⟨d_0,d_1⟩:=D.box2;have hsD:=bLt d_0;have E:=E.below hb;obtain⟨e_0,e_1,e_2,e_3,e_4,e_5⟩:=E.box6;have hsE:=bLt e_0;clear hb))
   all_goals go_wp2_with fail
   all_goals (refine wp_region_ext_lit (by kernel_rfl) (by kernel_rfl) ?_;(repeat (any_goals (first|go_big_quiet_step ((first|(go_at_call 134;exact Calls.ext_same (cA _))))|quiet_step ((first|(go_at_call 134;exact Calls.ext_same (cA _))))|(refine wpQuiet_step (fun K hK=>?_);go_simp;split<;>(refine hK _ ?_;clear hK K)))));all_goals (refine wpQuiet_nil ?_;rintro w1 ⟨⟨w2,hb⟩,rfl⟩;have hw:=hw.trans (hb.mono hw.size);have D:=D.below hb;obtain⟨d_0,d_1⟩:=D.box2;have hsD:=bLt d_0;have E:=E.below hb;obtain⟨e_0,e_1,e_2,e_3,e_4,e_5⟩:=E.box6;have hsE:=bLt e_0;clear hb))
   all_goals go_wp2_with fail
   all_goals go_returns
   all_goals exact⟨by rw[hrb.out,hBody.out];rfl,hw⟩
theorem l04Node_10 (x:GNode) (hx:x.wf) (N:List GNode) (hN:N.length<=1152921504606846976) (tv:Value) (na:Option Addr) (nc:Nat) (u0 u1:Value) (lo1 lo2:Nat) (w:World)
  (h0:Sl GNode.R 6 lo1 w (.slice na N.length nc) N) (hk:Sl IntR 1 lo2 w u0 x.kids) (hp:Sl GPat.R 1 lo2 w u1 x.pats) (hps:∀q∈x.pats,q.nodes.length<=1152921504606846976) (hg:x.kind=10) :
  Calls Tryz.prog 91 #[.agg #[tv,.slice na N.length nc],.agg #[.int .i64 x.kind,.int .i64 x.at_,.int .i64 x.n,.string x.s,u0,u1]] w fun e w'=>e=.returned (.bool (nodSpec N x))/\Below w.heap.size w w':=by
 obtain⟨kd,at_,nn,s,ks,ps⟩:=x
 obtain⟨pa,pc,rfl,pl,pmx,p0⟩:=hp
 obtain⟨ka,kc,rfl,kl,km,k0⟩:=hk
 obtain⟨hxk,hxa,hxn,hss⟩:=hx
 dsimp only at *
 replace hg:=kH hg
 have hres:=nodSpec_eq N ⟨kd,at_,nn,s,ks,ps⟩
 have hB0:badA ⟨kd,at_,nn,s,ks,ps⟩=(((((decide (kd<1)||decide (19<kd))||decide (at_<0))||(kd != 1&&nn != 0))||decide (nn<0))||decide (4611686018427387903<nn)):=rfl
 generalize nodSpec N ⟨kd,at_,nn,s,ks,ps⟩=res at *
 generalize badA ⟨kd,at_,nn,s,ks,ps⟩=bad at *
 have hfk:0<ks.length->(∀k∈ks,0<=k/\k<(N.length:Int))->∃ (j:Nat) (b o b2 o2:Nat) (y:Int),ka=some ⟨b,o,none⟩/\na=some ⟨b2,o2,none⟩/\w.cell? ⟨b,o,none⟩=some (.int .i64 (j:Int))/\j<N.length/\w.cell? ⟨b2,o2+j*6,none⟩=some (.int .i64 y)/\firstK N ks=y:=fun h hin=>by
  obtain⟨b1,o1,z,r,_,rfl,P1,⟨rfl,_⟩,r1⟩:=k0.get (kH rfl) h
  obtain⟨hz0,hz1⟩:=hin z (List.mem_of_getElem? P1.out)
  obtain⟨j,rfl⟩ : ∃j:Nat,z=j:=⟨z.toNat,by omega⟩
  obtain⟨na',nc',he,_,_,n0⟩:=h0
  obtain⟨rfl,rfl⟩ : na' = na/\nc' = nc:=by injection he with a b c;exact⟨a.symm,c.symm⟩
  obtain⟨b2,o2,y,r',_,rfl,P2,⟨v0,v1,rfl,_⟩,r2⟩:=n0.get (kH rfl) (show j<N.length by omega)
  refine⟨j,b1,o1,b2,o2,y.kind,rfl,rfl,by simpa using r1 0 _ rfl,by omega,by simpa using r2 0 _ rfl,?_⟩
  have hks:ks=(j:Int) :: ks.drop 1:=by
   have:=P1.out
   cases ks with
   |nil=>simp at h
   |cons a l=>simp at this;subst this;rfl
  rw[hks]
  show nkind N j=_
  unfold nkind
  rw[if_pos (by omega),Int.toNat_natCast,P2.out];rfl
 clear h0
 have hpn:((ps.length:Int) == 0)=true->patsOk ps=true:=patsOk_nil
 obtain⟨m,hm⟩ : ∃m,m=ks.length:=⟨_,rfl⟩
 obtain⟨n,hn⟩ : ∃n,n=N.length:=⟨_,rfl⟩
 obtain⟨pm,hpm⟩ : ∃pm,pm=ps.length:=⟨_,rfl⟩
 have hBody:nodRest N ⟨kd,at_,nn,s,ks,ps⟩ =
  if kd=3\/kd=5\/kd=7\/kd=15 then nameOk s&&((ps.length:Int) == 0&&(ks.length:Int) == arP kd)
  else if kd=8 then nameOk s&&(((ks.length:Int) == 2&&firstK N ks == 5)&&(ps.length:Int) == 0)
  else if kd=10 then primOk s&&((ps.length:Int) == 0&&(ks.length:Int) == arP kd)
  else if kd=2 then ((ps.length:Int) == 0&&(ks.length:Int) == arP kd)
  else if kd=4 then ((ps.length:Int) == 0&&conShape s ks.length ((ks.length:Int) == 1&&firstK N ks == 11))
  else if kd=13 then s.toList.isEmpty&&(patsOk ps&&(decide (2<=(ks.length:Int))&&(ps.length:Int) == (ks.length:Int)-1))
  else s.toList.isEmpty&&((ps.length:Int) == 0&&(ks.length:Int) == arP kd):=rfl
 generalize nodRest N ⟨kd,at_,nn,s,ks,ps⟩=body at *
 rw[<- hm,<- hpm]at hBody
 rw[<- hm,<- hn]at hfk
 rw[<- hn]at hres
 rw[<- hm]at kl
 rw[<- hpm]at pl
 rw[<- hm,<- hn,<- hpm]
 rw[<- hn]at hN
 have cA:=fun W=>l04Kids_c kd W
 have cN:=fun W=>spec_NameOk_c s hss W
 have cP:=fun W=>l04Prim_c s W
 have cS:=fun p W=>l04ConOk_c s m p hss W
 generalize firstK N ks=fk at *
 obtain⟨ar,har⟩ : ∃ar,arP kd=ar:=⟨_,rfl⟩
 rw[har]at hBody cA
 clear hn hpn
 replace hm:=kH hm;replace hpm:=kH hpm;replace hps:=kH hps
 replace hB0:=kH hB0;replace hBody:=kH hBody;replace hres:=kH hres;replace hfk:=kH hfk;replace har:=kH har;replace k0:=kH k0;replace p0:=kH p0
 go_enter Tryz.func91,Tryz.ntmps91
 go_upto_region 1 with fail
 have D:RowAt (w.alloc (.cells #[tv,.slice na n nc] 39)) (w.heap.size) 0 [tv,.slice na n nc]:=RowAt.box w #[tv,.slice na n nc] 39
 have D:=D.below (show Below (w.alloc (.cells #[tv,.slice na n nc] 39)).heap.size (w.alloc (.cells #[tv,.slice na n nc] 39)) ((w.alloc (.cells #[tv,.slice na n nc] 39)).alloc (.cells #[.int .i64 kd,.int .i64 at_,.int .i64 nn,.string s,.slice ka m kc,.slice pa pm pc] 123)) by go_grown)
 have E:RowAt ((w.alloc (.cells #[tv,.slice na n nc] 39)).alloc (.cells #[.int .i64 kd,.int .i64 at_,.int .i64 nn,.string s,.slice ka m kc,.slice pa pm pc] 123)) (w.heap.size+1) 0 [.int .i64 kd,.int .i64 at_,.int .i64 nn,.string s,.slice ka m kc,.slice pa pm pc]:=by have h:=RowAt.box (w.alloc (.cells #[tv,.slice na n nc] 39)) #[.int .i64 kd,.int .i64 at_,.int .i64 nn,.string s,.slice ka m kc,.slice pa pm pc] 123;simp only[World.size_alloc]at h;exact h
 have hw:Below w.heap.size w ((w.alloc (.cells #[tv,.slice na n nc] 39)).alloc (.cells #[.int .i64 kd,.int .i64 at_,.int .i64 nn,.string s,.slice ka m kc,.slice pa pm pc] 123)):=by go_grown
 generalize ((w.alloc (.cells #[tv,.slice na n nc] 39)).alloc (.cells #[.int .i64 kd,.int .i64 at_,.int .i64 nn,.string s,.slice ka m kc,.slice pa pm pc] 123))=w0 at *
 have hw1:Below w.heap.size w w0:=hw
 obtain⟨d_0,d_1⟩:=D.box2;have hsD:=bLt d_0;obtain⟨e_0,e_1,e_2,e_3,e_4,e_5⟩:=E.box6;have hsE:=bLt e_0
 go_cut [42] (fun sx wx=>sx=.bool bad/\wx=w0)
 case first=>
  cases a1:decide (kd<1)
  ·cases a2:decide (19<kd)
   ·cases a3:decide (at_<0)
    ·cases a4:(kd != 1)
     ·cases a6:decide (nn<0)
      ·cases a7:decide (4611686018427387903<nn)
       ·(go_wp2_with fail;go_meet;refine⟨?_,rfl⟩;rw[hB0.out];simp[*];done)
       ·(go_wp2_with fail;go_meet;refine⟨?_,rfl⟩;rw[hB0.out];simp[*];done)
      ·(go_wp2_with fail;go_meet;refine⟨?_,rfl⟩;rw[hB0.out];simp[*];done)
     ·cases a5:(nn != 0)
      ·cases a6:decide (nn<0)
       ·cases a7:decide (4611686018427387903<nn)
        ·(go_wp2_with fail;go_meet;refine⟨?_,rfl⟩;rw[hB0.out];simp[*];done)
        ·(go_wp2_with fail;go_meet;refine⟨?_,rfl⟩;rw[hB0.out];simp[*];done)
       ·(go_wp2_with fail;go_meet;refine⟨?_,rfl⟩;rw[hB0.out];simp[*];done)
      ·(go_wp2_with fail;go_meet;refine⟨?_,rfl⟩;rw[hB0.out];simp[*];done)
    ·(go_wp2_with fail;go_meet;refine⟨?_,rfl⟩;rw[hB0.out];simp[*];done)
   ·(go_wp2_with fail;go_meet;refine⟨?_,rfl⟩;rw[hB0.out];simp[*];done)
  ·(go_wp2_with fail;go_meet;refine⟨?_,rfl⟩;rw[hB0.out];simp[*];done)
 obtain⟨rfl,rfl⟩:=hcut
 cases bad
 rotate_left
 ·have hr:res=false:=hres.out
  subst hr
  go_wp2_with fail
  go_returns
  exact⟨rfl,hw⟩
 have hkr:1<=kd/\kd<=19:=by have h:=hB0.out;simp at h;omega
 replace hres:Hid (res=(kidsIn n ks&&body)):=hres
 replace hkr:=kH hkr
 clear hB0 hw1
 go_wp2_with fail
 go_loopw [46] (fun ii wr=>∃j:Nat,j<=m/\ii=.int .i64 j/\Hid (∀k∈ks.take j,(decide (0<=k)&&decide (k<(n:Int)))=true)/\Below w.heap.size w wr/\RowAt wr w.heap.size 0 [tv,.slice na n nc]/\RowAt wr (w.heap.size+1) 0 [.int .i64 kd,.int .i64 at_,.int .i64 nn,.string s,.slice ka m kc,.slice pa pm pc]) (fun ii _=>m-(intOf ii).toNat)
 case atStart=>exact⟨0,by omega,rfl,fun y hy=>by simp at hy,hw,D,E⟩
 case round=>
  clear hw D E d_0 d_1 e_0 e_1 e_2 e_3 e_4 e_5 hsD hsE
  obtain⟨j,hj,rfl,hF,hw,D,E⟩:=hrel
  have hsz:=hw.size
  obtain⟨d_0,d_1⟩:=D.box2;have hsD:=bLt d_0;obtain⟨e_0,e_1,e_2,e_3,e_4,e_5⟩:=E.box6;have hsE:=bLt e_0
  by_cases hjm:j<m
  ·obtain⟨b1,o1,k,r,_,rfl,P1,⟨rfl,hk64⟩,r1⟩:=(k0.out.below IntR.good hw).get hm.out hjm
   have f_0:wr.cell? ⟨b1,o1+j,none⟩=some (.int .i64 k):=by simpa using r1 0 _ rfl
   have hbb1:=World.block_lt_of_cell? _ _ f_0;dsimp only at hbb1
   have P1':=P1.out
   have hgood:=fun h=>all_stepL (f:=fun k=>decide (0<=k)&&decide (k<(n:Int))) hF.out P1' h
   have hbadk:(decide (0<=k)&&decide (k<(n:Int)))=false->res=false:=fun h=>by
    have h1:kidsIn n ks=false:=all_bad (f:=fun k=>decide (0<=k)&&decide (k<(n:Int))) P1' h
    rw[hres.out,h1];rfl
   clear r1 P1 P1' hF
   replace hgood:=kH hgood;replace hbadk:=kH hbadk
   by_cases hk0:k<0
   ·have d1:decide (k<0)=true:=decide_eq_true hk0
    have hr:=hbadk.out (by rw[decide_eq_false (by omega)];rfl)
    subst hr
    clear hbadk hgood hk0 hres
    go_wp2_with fail
    go_returns
    exact⟨rfl,hw⟩
   ·have d1:decide (k<0)=false:=decide_eq_false hk0
    by_cases hkn:(n:Int)<=k
    ·have d2:decide ((n:Int)<=k)=true:=decide_eq_true hkn
     have hr:=hbadk.out (by rw[decide_eq_false (by omega : ¬ k<(n:Int))];simp)
     subst hr
     clear hbadk hgood hk0 hkn hres
     go_wp2_with fail
     go_returns
     exact⟨rfl,hw⟩
    ·have d2:decide ((n:Int)<=k)=false:=decide_eq_false hkn
     have hF:=kH (hgood.out (by rw[decide_eq_true (by omega),decide_eq_true (by omega)];rfl))
     clear hbadk hgood hk0 hkn
     go_wp2_with fail
     go_roundw
     case rel=>exact⟨j+1,by omega,by go_num,hF,hw,D,E⟩
     case measure=>simp[intOf];omega
  ·obtain rfl:j=m:=by omega
   have hki:kidsIn n ks=true:=all_full (f:=fun k=>decide (0<=k)&&decide (k<(n:Int))) hF.out hm.out
   have hinA:∀k∈ks,0<=k/\k<(n:Int):=fun k hk=>by
    have:=List.all_eq_true.1 hki k hk
    simpa using this
   have hrb:res=body:=by rw[hres.out,hki];rfl
   replace hfk:Hid (0<j->∃ (j:Nat) (b o b2 o2:Nat) (y:Int),ka=some ⟨b,o,none⟩/\na=some ⟨b2,o2,none⟩/\w.cell? ⟨b,o,none⟩=some (.int .i64 (j:Int))/\j<n/\w.cell? ⟨b2,o2+j*6,none⟩=some (.int .i64 y)/\fk=y):=kH fun h=>hfk.out h hinA
   clear hres hki hinA hF k0
   replace hrb:=kH hrb
   have hm1:((j:Int) == 1)=decide (j=1):=by rw[Bool.eq_iff_iff];simp;omega
   replace hm1:=kH hm1
   generalize hpz:((pm:Int) == 0)=pz at *
   clear hm
   have hg:=hg.out
   subst hg
   replace hBody:body=(primOk s&&(pz&&(j:Int) == ar)):=hBody.out
   generalize primOk s=no at *
   generalize hka:((j:Int) == ar)=za at *
   cases no<;>cases pz
   all_goals replace hBody:=kH hBody
   all_goals go_wp2_with (go_at_call 132;((with_reducible refine(cP _).mono ?_);rintro e w1 ⟨rfl,hb⟩;have hw:=hw.trans (hb.mono hw.size);have D:=D.below hb;obtain⟨d_0,d_1⟩:=D.box2;have hsD:=bLt d_0;have E:=E.below hb;obtain⟨e_0,e_1,e_2,e_3,e_4,e_5⟩:=E.box6;have hsE:=bLt e_0;clear hb))
   all_goals go_wp2_with fail
   all_goals first|(go_returns;exact⟨by rw[hrb.out,hBody.out];rfl,hw⟩)|skip
   all_goals (refine wp_region_ext_lit (by kernel_rfl) (by kernel_rfl) ?_;(repeat (any_goals (first|go_big_quiet_step ((first|fail))|quiet_step ((first|fail))|(refine wpQuiet_step (fun K hK=>?_);go_simp;split<;>(refine hK _ ?_;clear hK K)))));all_goals (refine wpQuiet_nil ?_;rintro w1 ⟨⟨w2,hb⟩,rfl⟩;have hw:=hw.trans (hb.mono hw.size);have D:=D.below hb;obtain⟨d_0,d_1⟩:=D.box2;have hsD:=bLt d_0;have E:=E.below hb;obtain⟨e_0,e_1,e_2,e_3,e_4,e_5⟩:=E.box6;have hsE:=bLt e_0;clear hb))
   all_goals go_wp2_with fail
   all_goals (refine wp_region_ext_lit (by kernel_rfl) (by kernel_rfl) ?_;(repeat (any_goals (first|go_big_quiet_step ((first|(go_at_call 134;exact Calls.ext_same (cA _))))|quiet_step ((first|(go_at_call 134;exact Calls.ext_same (cA _))))|(refine wpQuiet_step (fun K hK=>?_);go_simp;split<;>(refine hK _ ?_;clear hK K)))));all_goals (refine wpQuiet_nil ?_;rintro w1 ⟨⟨w2,hb⟩,rfl⟩;have hw:=hw.trans (hb.mono hw.size);have D:=D.below hb;obtain⟨d_0,d_1⟩:=D.box2;have hsD:=bLt d_0;have E:=E.below hb;obtain⟨e_0,e_1,e_2,e_3,e_4,e_5⟩:=E.box6;have hsE:=bLt e_0;clear hb))
   all_goals go_wp2_with fail
   all_goals go_returns
   all_goals exact⟨by rw[hrb.out,hBody.out];rfl,hw⟩
theorem l04Node_2 (x:GNode) (hx:x.wf) (N:List GNode) (hN:N.length<=1152921504606846976) (tv:Value) (na:Option Addr) (nc:Nat) (u0 u1:Value) (lo1 lo2:Nat) (w:World)
  (h0:Sl GNode.R 6 lo1 w (.slice na N.length nc) N) (hk:Sl IntR 1 lo2 w u0 x.kids) (hp:Sl GPat.R 1 lo2 w u1 x.pats) (hps:∀q∈x.pats,q.nodes.length<=1152921504606846976) (hg:x.kind=2) :
  Calls Tryz.prog 91 #[.agg #[tv,.slice na N.length nc],.agg #[.int .i64 x.kind,.int .i64 x.at_,.int .i64 x.n,.string x.s,u0,u1]] w fun e w'=>e=.returned (.bool (nodSpec N x))/\Below w.heap.size w w':=by
 obtain⟨kd,at_,nn,s,ks,ps⟩:=x
 obtain⟨pa,pc,rfl,pl,pmx,p0⟩:=hp
 obtain⟨ka,kc,rfl,kl,km,k0⟩:=hk
 obtain⟨hxk,hxa,hxn,hss⟩:=hx
 dsimp only at *
 replace hg:=kH hg
 have hres:=nodSpec_eq N ⟨kd,at_,nn,s,ks,ps⟩
 have hB0:badA ⟨kd,at_,nn,s,ks,ps⟩=(((((decide (kd<1)||decide (19<kd))||decide (at_<0))||(kd != 1&&nn != 0))||decide (nn<0))||decide (4611686018427387903<nn)):=rfl
 generalize nodSpec N ⟨kd,at_,nn,s,ks,ps⟩=res at *
 generalize badA ⟨kd,at_,nn,s,ks,ps⟩=bad at *
 have hfk:0<ks.length->(∀k∈ks,0<=k/\k<(N.length:Int))->∃ (j:Nat) (b o b2 o2:Nat) (y:Int),ka=some ⟨b,o,none⟩/\na=some ⟨b2,o2,none⟩/\w.cell? ⟨b,o,none⟩=some (.int .i64 (j:Int))/\j<N.length/\w.cell? ⟨b2,o2+j*6,none⟩=some (.int .i64 y)/\firstK N ks=y:=fun h hin=>by
  obtain⟨b1,o1,z,r,_,rfl,P1,⟨rfl,_⟩,r1⟩:=k0.get (kH rfl) h
  obtain⟨hz0,hz1⟩:=hin z (List.mem_of_getElem? P1.out)
  obtain⟨j,rfl⟩ : ∃j:Nat,z=j:=⟨z.toNat,by omega⟩
  obtain⟨na',nc',he,_,_,n0⟩:=h0
  obtain⟨rfl,rfl⟩ : na' = na/\nc' = nc:=by injection he with a b c;exact⟨a.symm,c.symm⟩
  obtain⟨b2,o2,y,r',_,rfl,P2,⟨v0,v1,rfl,_⟩,r2⟩:=n0.get (kH rfl) (show j<N.length by omega)
  refine⟨j,b1,o1,b2,o2,y.kind,rfl,rfl,by simpa using r1 0 _ rfl,by omega,by simpa using r2 0 _ rfl,?_⟩
  have hks:ks=(j:Int) :: ks.drop 1:=by
   have:=P1.out
   cases ks with
   |nil=>simp at h
   |cons a l=>simp at this;subst this;rfl
  rw[hks]
  show nkind N j=_
  unfold nkind
  rw[if_pos (by omega),Int.toNat_natCast,P2.out];rfl
 clear h0
 have hpn:((ps.length:Int) == 0)=true->patsOk ps=true:=patsOk_nil
 obtain⟨m,hm⟩ : ∃m,m=ks.length:=⟨_,rfl⟩
 obtain⟨n,hn⟩ : ∃n,n=N.length:=⟨_,rfl⟩
 obtain⟨pm,hpm⟩ : ∃pm,pm=ps.length:=⟨_,rfl⟩
 have hBody:nodRest N ⟨kd,at_,nn,s,ks,ps⟩ =
  if kd=3\/kd=5\/kd=7\/kd=15 then nameOk s&&((ps.length:Int) == 0&&(ks.length:Int) == arP kd)
  else if kd=8 then nameOk s&&(((ks.length:Int) == 2&&firstK N ks == 5)&&(ps.length:Int) == 0)
  else if kd=10 then primOk s&&((ps.length:Int) == 0&&(ks.length:Int) == arP kd)
  else if kd=2 then ((ps.length:Int) == 0&&(ks.length:Int) == arP kd)
  else if kd=4 then ((ps.length:Int) == 0&&conShape s ks.length ((ks.length:Int) == 1&&firstK N ks == 11))
  else if kd=13 then s.toList.isEmpty&&(patsOk ps&&(decide (2<=(ks.length:Int))&&(ps.length:Int) == (ks.length:Int)-1))
  else s.toList.isEmpty&&((ps.length:Int) == 0&&(ks.length:Int) == arP kd):=rfl
 generalize nodRest N ⟨kd,at_,nn,s,ks,ps⟩=body at *
 rw[<- hm,<- hpm]at hBody
 rw[<- hm,<- hn]at hfk
 rw[<- hn]at hres
 rw[<- hm]at kl
 rw[<- hpm]at pl
 rw[<- hm,<- hn,<- hpm]
 rw[<- hn]at hN
 have cA:=fun W=>l04Kids_c kd W
 have cN:=fun W=>spec_NameOk_c s hss W
 have cP:=fun W=>l04Prim_c s W
 have cS:=fun p W=>l04ConOk_c s m p hss W
 generalize firstK N ks=fk at *
 obtain⟨ar,har⟩ : ∃ar,arP kd=ar:=⟨_,rfl⟩
 rw[har]at hBody cA
 clear hn hpn
 replace hm:=kH hm;replace hpm:=kH hpm;replace hps:=kH hps
 replace hB0:=kH hB0;replace hBody:=kH hBody;replace hres:=kH hres;replace hfk:=kH hfk;replace har:=kH har;replace k0:=kH k0;replace p0:=kH p0
 go_enter Tryz.func91,Tryz.ntmps91
 go_upto_region 1 with fail
 have D:RowAt (w.alloc (.cells #[tv,.slice na n nc] 39)) (w.heap.size) 0 [tv,.slice na n nc]:=RowAt.box w #[tv,.slice na n nc] 39
 have D:=D.below (show Below (w.alloc (.cells #[tv,.slice na n nc] 39)).heap.size (w.alloc (.cells #[tv,.slice na n nc] 39)) ((w.alloc (.cells #[tv,.slice na n nc] 39)).alloc (.cells #[.int .i64 kd,.int .i64 at_,.int .i64 nn,.string s,.slice ka m kc,.slice pa pm pc] 123)) by go_grown)
 have E:RowAt ((w.alloc (.cells #[tv,.slice na n nc] 39)).alloc (.cells #[.int .i64 kd,.int .i64 at_,.int .i64 nn,.string s,.slice ka m kc,.slice pa pm pc] 123)) (w.heap.size+1) 0 [.int .i64 kd,.int .i64 at_,.int .i64 nn,.string s,.slice ka m kc,.slice pa pm pc]:=by have h:=RowAt.box (w.alloc (.cells #[tv,.slice na n nc] 39)) #[.int .i64 kd,.int .i64 at_,.int .i64 nn,.string s,.slice ka m kc,.slice pa pm pc] 123;simp only[World.size_alloc]at h;exact h
 have hw:Below w.heap.size w ((w.alloc (.cells #[tv,.slice na n nc] 39)).alloc (.cells #[.int .i64 kd,.int .i64 at_,.int .i64 nn,.string s,.slice ka m kc,.slice pa pm pc] 123)):=by go_grown
 generalize ((w.alloc (.cells #[tv,.slice na n nc] 39)).alloc (.cells #[.int .i64 kd,.int .i64 at_,.int .i64 nn,.string s,.slice ka m kc,.slice pa pm pc] 123))=w0 at *
 have hw1:Below w.heap.size w w0:=hw
 obtain⟨d_0,d_1⟩:=D.box2;have hsD:=bLt d_0;obtain⟨e_0,e_1,e_2,e_3,e_4,e_5⟩:=E.box6;have hsE:=bLt e_0
 go_cut [42] (fun sx wx=>sx=.bool bad/\wx=w0)
 case first=>
  cases a1:decide (kd<1)
  ·cases a2:decide (19<kd)
   ·cases a3:decide (at_<0)
    ·cases a4:(kd != 1)
     ·cases a6:decide (nn<0)
      ·cases a7:decide (4611686018427387903<nn)
       ·(go_wp2_with fail;go_meet;refine⟨?_,rfl⟩;rw[hB0.out];simp[*];done)
       ·(go_wp2_with fail;go_meet;refine⟨?_,rfl⟩;rw[hB0.out];simp[*];done)
      ·(go_wp2_with fail;go_meet;refine⟨?_,rfl⟩;rw[hB0.out];simp[*];done)
     ·cases a5:(nn != 0)
      ·cases a6:decide (nn<0)
       ·cases a7:decide (4611686018427387903<nn)
        ·(go_wp2_with fail;go_meet;refine⟨?_,rfl⟩;rw[hB0.out];simp[*];done)
        ·(go_wp2_with fail;go_meet;refine⟨?_,rfl⟩;rw[hB0.out];simp[*];done)
       ·(go_wp2_with fail;go_meet;refine⟨?_,rfl⟩;rw[hB0.out];simp[*];done)
      ·(go_wp2_with fail;go_meet;refine⟨?_,rfl⟩;rw[hB0.out];simp[*];done)
    ·(go_wp2_with fail;go_meet;refine⟨?_,rfl⟩;rw[hB0.out];simp[*];done)
   ·(go_wp2_with fail;go_meet;refine⟨?_,rfl⟩;rw[hB0.out];simp[*];done)
  ·(go_wp2_with fail;go_meet;refine⟨?_,rfl⟩;rw[hB0.out];simp[*];done)
 obtain⟨rfl,rfl⟩:=hcut
 cases bad
 rotate_left
 ·have hr:res=false:=hres.out
  subst hr
  go_wp2_with fail
  go_returns
  exact⟨rfl,hw⟩
 have hkr:1<=kd/\kd<=19:=by have h:=hB0.out;simp at h;omega
 replace hres:Hid (res=(kidsIn n ks&&body)):=hres
 replace hkr:=kH hkr
 clear hB0 hw1
 go_wp2_with fail
 go_loopw [46] (fun ii wr=>∃j:Nat,j<=m/\ii=.int .i64 j/\Hid (∀k∈ks.take j,(decide (0<=k)&&decide (k<(n:Int)))=true)/\Below w.heap.size w wr/\RowAt wr w.heap.size 0 [tv,.slice na n nc]/\RowAt wr (w.heap.size+1) 0 [.int .i64 kd,.int .i64 at_,.int .i64 nn,.string s,.slice ka m kc,.slice pa pm pc]) (fun ii _=>m-(intOf ii).toNat)
 case atStart=>exact⟨0,by omega,rfl,fun y hy=>by simp at hy,hw,D,E⟩
 case round=>
  clear hw D E d_0 d_1 e_0 e_1 e_2 e_3 e_4 e_5 hsD hsE
  obtain⟨j,hj,rfl,hF,hw,D,E⟩:=hrel
  have hsz:=hw.size
  obtain⟨d_0,d_1⟩:=D.box2;have hsD:=bLt d_0;obtain⟨e_0,e_1,e_2,e_3,e_4,e_5⟩:=E.box6;have hsE:=bLt e_0
  by_cases hjm:j<m
  ·obtain⟨b1,o1,k,r,_,rfl,P1,⟨rfl,hk64⟩,r1⟩:=(k0.out.below IntR.good hw).get hm.out hjm
   have f_0:wr.cell? ⟨b1,o1+j,none⟩=some (.int .i64 k):=by simpa using r1 0 _ rfl
   have hbb1:=World.block_lt_of_cell? _ _ f_0;dsimp only at hbb1
   have P1':=P1.out
   have hgood:=fun h=>all_stepL (f:=fun k=>decide (0<=k)&&decide (k<(n:Int))) hF.out P1' h
   have hbadk:(decide (0<=k)&&decide (k<(n:Int)))=false->res=false:=fun h=>by
    have h1:kidsIn n ks=false:=all_bad (f:=fun k=>decide (0<=k)&&decide (k<(n:Int))) P1' h
    rw[hres.out,h1];rfl
   clear r1 P1 P1' hF
   replace hgood:=kH hgood;replace hbadk:=kH hbadk
   by_cases hk0:k<0
   ·have d1:decide (k<0)=true:=decide_eq_true hk0
    have hr:=hbadk.out (by rw[decide_eq_false (by omega)];rfl)
    subst hr
    clear hbadk hgood hk0 hres
    go_wp2_with fail
    go_returns
    exact⟨rfl,hw⟩
   ·have d1:decide (k<0)=false:=decide_eq_false hk0
    by_cases hkn:(n:Int)<=k
    ·have d2:decide ((n:Int)<=k)=true:=decide_eq_true hkn
     have hr:=hbadk.out (by rw[decide_eq_false (by omega : ¬ k<(n:Int))];simp)
     subst hr
     clear hbadk hgood hk0 hkn hres
     go_wp2_with fail
     go_returns
     exact⟨rfl,hw⟩
    ·have d2:decide ((n:Int)<=k)=false:=decide_eq_false hkn
     have hF:=kH (hgood.out (by rw[decide_eq_true (by omega),decide_eq_true (by omega)];rfl))
     clear hbadk hgood hk0 hkn
     go_wp2_with fail
     go_roundw
     case rel=>exact⟨j+1,by omega,by go_num,hF,hw,D,E⟩
     case measure=>simp[intOf];omega
  ·obtain rfl:j=m:=by omega
   have hki:kidsIn n ks=true:=all_full (f:=fun k=>decide (0<=k)&&decide (k<(n:Int))) hF.out hm.out
   have hinA:∀k∈ks,0<=k/\k<(n:Int):=fun k hk=>by
    have:=List.all_eq_true.1 hki k hk
    simpa using this
   have hrb:res=body:=by rw[hres.out,hki];rfl
   replace hfk:Hid (0<j->∃ (j:Nat) (b o b2 o2:Nat) (y:Int),ka=some ⟨b,o,none⟩/\na=some ⟨b2,o2,none⟩/\w.cell? ⟨b,o,none⟩=some (.int .i64 (j:Int))/\j<n/\w.cell? ⟨b2,o2+j*6,none⟩=some (.int .i64 y)/\fk=y):=kH fun h=>hfk.out h hinA
   clear hres hki hinA hF k0
   replace hrb:=kH hrb
   have hm1:((j:Int) == 1)=decide (j=1):=by rw[Bool.eq_iff_iff];simp;omega
   replace hm1:=kH hm1
   generalize hpz:((pm:Int) == 0)=pz at *
   clear hm
   have hg:=hg.out
   subst hg
   replace hBody:body=(pz&&(j:Int) == ar):=hBody.out
   generalize hka:((j:Int) == ar)=za at *
   cases pz
   all_goals replace hBody:=kH hBody
   all_goals go_wp2_with fail
   all_goals first|(go_returns;exact⟨by rw[hrb.out,hBody.out];rfl,hw⟩)|skip
   all_goals (refine wp_region_ext_lit (by kernel_rfl) (by kernel_rfl) ?_;(repeat (any_goals (first|go_big_quiet_step ((first|fail))|quiet_step ((first|fail))|(refine wpQuiet_step (fun K hK=>?_);go_simp;split<;>(refine hK _ ?_;clear hK K)))));all_goals (refine wpQuiet_nil ?_;rintro w1 ⟨⟨w2,hb⟩,rfl⟩;have hw:=hw.trans (hb.mono hw.size);have D:=D.below hb;obtain⟨d_0,d_1⟩:=D.box2;have hsD:=bLt d_0;have E:=E.below hb;obtain⟨e_0,e_1,e_2,e_3,e_4,e_5⟩:=E.box6;have hsE:=bLt e_0;clear hb))
   all_goals go_wp2_with fail
   all_goals (refine wp_region_ext_lit (by kernel_rfl) (by kernel_rfl) ?_;(repeat (any_goals (first|go_big_quiet_step ((first|(go_at_call 134;exact Calls.ext_same (cA _))))|quiet_step ((first|(go_at_call 134;exact Calls.ext_same (cA _))))|(refine wpQuiet_step (fun K hK=>?_);go_simp;split<;>(refine hK _ ?_;clear hK K)))));all_goals (refine wpQuiet_nil ?_;rintro w1 ⟨⟨w2,hb⟩,rfl⟩;have hw:=hw.trans (hb.mono hw.size);have D:=D.below hb;obtain⟨d_0,d_1⟩:=D.box2;have hsD:=bLt d_0;have E:=E.below hb;obtain⟨e_0,e_1,e_2,e_3,e_4,e_5⟩:=E.box6;have hsE:=bLt e_0;clear hb))
   all_goals go_wp2_with fail
   all_goals go_returns
   all_goals exact⟨by rw[hrb.out,hBody.out];rfl,hw⟩
theorem l04Node_4 (x:GNode) (hx:x.wf) (N:List GNode) (hN:N.length<=1152921504606846976) (tv:Value) (na:Option Addr) (nc:Nat) (u0 u1:Value) (lo1 lo2:Nat) (w:World)
  (h0:Sl GNode.R 6 lo1 w (.slice na N.length nc) N) (hk:Sl IntR 1 lo2 w u0 x.kids) (hp:Sl GPat.R 1 lo2 w u1 x.pats) (hps:∀q∈x.pats,q.nodes.length<=1152921504606846976) (hg:x.kind=4) :
  Calls Tryz.prog 91 #[.agg #[tv,.slice na N.length nc],.agg #[.int .i64 x.kind,.int .i64 x.at_,.int .i64 x.n,.string x.s,u0,u1]] w fun e w'=>e=.returned (.bool (nodSpec N x))/\Below w.heap.size w w':=by
 obtain⟨kd,at_,nn,s,ks,ps⟩:=x
 obtain⟨pa,pc,rfl,pl,pmx,p0⟩:=hp
 obtain⟨ka,kc,rfl,kl,km,k0⟩:=hk
 obtain⟨hxk,hxa,hxn,hss⟩:=hx
 dsimp only at *
 replace hg:=kH hg
 have hres:=nodSpec_eq N ⟨kd,at_,nn,s,ks,ps⟩
 have hB0:badA ⟨kd,at_,nn,s,ks,ps⟩=(((((decide (kd<1)||decide (19<kd))||decide (at_<0))||(kd != 1&&nn != 0))||decide (nn<0))||decide (4611686018427387903<nn)):=rfl
 generalize nodSpec N ⟨kd,at_,nn,s,ks,ps⟩=res at *
 generalize badA ⟨kd,at_,nn,s,ks,ps⟩=bad at *
 have hfk:0<ks.length->(∀k∈ks,0<=k/\k<(N.length:Int))->∃ (j:Nat) (b o b2 o2:Nat) (y:Int),ka=some ⟨b,o,none⟩/\na=some ⟨b2,o2,none⟩/\w.cell? ⟨b,o,none⟩=some (.int .i64 (j:Int))/\j<N.length/\w.cell? ⟨b2,o2+j*6,none⟩=some (.int .i64 y)/\firstK N ks=y:=fun h hin=>by
  obtain⟨b1,o1,z,r,_,rfl,P1,⟨rfl,_⟩,r1⟩:=k0.get (kH rfl) h
  obtain⟨hz0,hz1⟩:=hin z (List.mem_of_getElem? P1.out)
  obtain⟨j,rfl⟩ : ∃j:Nat,z=j:=⟨z.toNat,by omega⟩
  obtain⟨na',nc',he,_,_,n0⟩:=h0
  obtain⟨rfl,rfl⟩ : na' = na/\nc' = nc:=by injection he with a b c;exact⟨a.symm,c.symm⟩
  obtain⟨b2,o2,y,r',_,rfl,P2,⟨v0,v1,rfl,_⟩,r2⟩:=n0.get (kH rfl) (show j<N.length by omega)
  refine⟨j,b1,o1,b2,o2,y.kind,rfl,rfl,by simpa using r1 0 _ rfl,by omega,by simpa using r2 0 _ rfl,?_⟩
  have hks:ks=(j:Int) :: ks.drop 1:=by
   have:=P1.out
   cases ks with
   |nil=>simp at h
   |cons a l=>simp at this;subst this;rfl
  rw[hks]
  show nkind N j=_
  unfold nkind
  rw[if_pos (by omega),Int.toNat_natCast,P2.out];rfl
 clear h0
 have hpn:((ps.length:Int) == 0)=true->patsOk ps=true:=patsOk_nil
 obtain⟨m,hm⟩ : ∃m,m=ks.length:=⟨_,rfl⟩
 obtain⟨n,hn⟩ : ∃n,n=N.length:=⟨_,rfl⟩
 obtain⟨pm,hpm⟩ : ∃pm,pm=ps.length:=⟨_,rfl⟩
 have hBody:nodRest N ⟨kd,at_,nn,s,ks,ps⟩ =
  if kd=3\/kd=5\/kd=7\/kd=15 then nameOk s&&((ps.length:Int) == 0&&(ks.length:Int) == arP kd)
  else if kd=8 then nameOk s&&(((ks.length:Int) == 2&&firstK N ks == 5)&&(ps.length:Int) == 0)
  else if kd=10 then primOk s&&((ps.length:Int) == 0&&(ks.length:Int) == arP kd)
  else if kd=2 then ((ps.length:Int) == 0&&(ks.length:Int) == arP kd)
  else if kd=4 then ((ps.length:Int) == 0&&conShape s ks.length ((ks.length:Int) == 1&&firstK N ks == 11))
  else if kd=13 then s.toList.isEmpty&&(patsOk ps&&(decide (2<=(ks.length:Int))&&(ps.length:Int) == (ks.length:Int)-1))
  else s.toList.isEmpty&&((ps.length:Int) == 0&&(ks.length:Int) == arP kd):=rfl
 generalize nodRest N ⟨kd,at_,nn,s,ks,ps⟩=body at *
 rw[<- hm,<- hpm]at hBody
 rw[<- hm,<- hn]at hfk
 rw[<- hn]at hres
 rw[<- hm]at kl
 rw[<- hpm]at pl
 rw[<- hm,<- hn,<- hpm]
 rw[<- hn]at hN
 have cA:=fun W=>l04Kids_c kd W
 have cN:=fun W=>spec_NameOk_c s hss W
 have cP:=fun W=>l04Prim_c s W
 have cS:=fun p W=>l04ConOk_c s m p hss W
 generalize firstK N ks=fk at *
 obtain⟨ar,har⟩ : ∃ar,arP kd=ar:=⟨_,rfl⟩
 rw[har]at hBody cA
 clear hn hpn
 replace hm:=kH hm;replace hpm:=kH hpm;replace hps:=kH hps
 replace hB0:=kH hB0;replace hBody:=kH hBody;replace hres:=kH hres;replace hfk:=kH hfk;replace har:=kH har;replace k0:=kH k0;replace p0:=kH p0
 go_enter Tryz.func91,Tryz.ntmps91
 go_upto_region 1 with fail
 have D:RowAt (w.alloc (.cells #[tv,.slice na n nc] 39)) (w.heap.size) 0 [tv,.slice na n nc]:=RowAt.box w #[tv,.slice na n nc] 39
 have D:=D.below (show Below (w.alloc (.cells #[tv,.slice na n nc] 39)).heap.size (w.alloc (.cells #[tv,.slice na n nc] 39)) ((w.alloc (.cells #[tv,.slice na n nc] 39)).alloc (.cells #[.int .i64 kd,.int .i64 at_,.int .i64 nn,.string s,.slice ka m kc,.slice pa pm pc] 123)) by go_grown)
 have E:RowAt ((w.alloc (.cells #[tv,.slice na n nc] 39)).alloc (.cells #[.int .i64 kd,.int .i64 at_,.int .i64 nn,.string s,.slice ka m kc,.slice pa pm pc] 123)) (w.heap.size+1) 0 [.int .i64 kd,.int .i64 at_,.int .i64 nn,.string s,.slice ka m kc,.slice pa pm pc]:=by have h:=RowAt.box (w.alloc (.cells #[tv,.slice na n nc] 39)) #[.int .i64 kd,.int .i64 at_,.int .i64 nn,.string s,.slice ka m kc,.slice pa pm pc] 123;simp only[World.size_alloc]at h;exact h
 have hw:Below w.heap.size w ((w.alloc (.cells #[tv,.slice na n nc] 39)).alloc (.cells #[.int .i64 kd,.int .i64 at_,.int .i64 nn,.string s,.slice ka m kc,.slice pa pm pc] 123)):=by go_grown
 generalize ((w.alloc (.cells #[tv,.slice na n nc] 39)).alloc (.cells #[.int .i64 kd,.int .i64 at_,.int .i64 nn,.string s,.slice ka m kc,.slice pa pm pc] 123))=w0 at *
 have hw1:Below w.heap.size w w0:=hw
 obtain⟨d_0,d_1⟩:=D.box2;have hsD:=bLt d_0;obtain⟨e_0,e_1,e_2,e_3,e_4,e_5⟩:=E.box6;have hsE:=bLt e_0
 go_cut [42] (fun sx wx=>sx=.bool bad/\wx=w0)
 case first=>
  cases a1:decide (kd<1)
  ·cases a2:decide (19<kd)
   ·cases a3:decide (at_<0)
    ·cases a4:(kd != 1)
     ·cases a6:decide (nn<0)
      ·cases a7:decide (4611686018427387903<nn)
       ·(go_wp2_with fail;go_meet;refine⟨?_,rfl⟩;rw[hB0.out];simp[*];done)
       ·(go_wp2_with fail;go_meet;refine⟨?_,rfl⟩;rw[hB0.out];simp[*];done)
      ·(go_wp2_with fail;go_meet;refine⟨?_,rfl⟩;rw[hB0.out];simp[*];done)
     ·cases a5:(nn != 0)
      ·cases a6:decide (nn<0)
       ·cases a7:decide (4611686018427387903<nn)
        ·(go_wp2_with fail;go_meet;refine⟨?_,rfl⟩;rw[hB0.out];simp[*];done)
        ·(go_wp2_with fail;go_meet;refine⟨?_,rfl⟩;rw[hB0.out];simp[*];done)
       ·(go_wp2_with fail;go_meet;refine⟨?_,rfl⟩;rw[hB0.out];simp[*];done)
      ·(go_wp2_with fail;go_meet;refine⟨?_,rfl⟩;rw[hB0.out];simp[*];done)
    ·(go_wp2_with fail;go_meet;refine⟨?_,rfl⟩;rw[hB0.out];simp[*];done)
   ·(go_wp2_with fail;go_meet;refine⟨?_,rfl⟩;rw[hB0.out];simp[*];done)
  ·(go_wp2_with fail;go_meet;refine⟨?_,rfl⟩;rw[hB0.out];simp[*];done)
 obtain⟨rfl,rfl⟩:=hcut
 cases bad
 rotate_left
 ·have hr:res=false:=hres.out
  subst hr
  go_wp2_with fail
  go_returns
  exact⟨rfl,hw⟩
 have hkr:1<=kd/\kd<=19:=by have h:=hB0.out;simp at h;omega
 replace hres:Hid (res=(kidsIn n ks&&body)):=hres
 replace hkr:=kH hkr
 clear hB0 hw1
 go_wp2_with fail
 go_loopw [46] (fun ii wr=>∃j:Nat,j<=m/\ii=.int .i64 j/\Hid (∀k∈ks.take j,(decide (0<=k)&&decide (k<(n:Int)))=true)/\Below w.heap.size w wr/\RowAt wr w.heap.size 0 [tv,.slice na n nc]/\RowAt wr (w.heap.size+1) 0 [.int .i64 kd,.int .i64 at_,.int .i64 nn,.string s,.slice ka m kc,.slice pa pm pc]) (fun ii _=>m-(intOf ii).toNat)
 case atStart=>exact⟨0,by omega,rfl,fun y hy=>by simp at hy,hw,D,E⟩
 case round=>
  clear hw D E d_0 d_1 e_0 e_1 e_2 e_3 e_4 e_5 hsD hsE
  obtain⟨j,hj,rfl,hF,hw,D,E⟩:=hrel
  have hsz:=hw.size
  obtain⟨d_0,d_1⟩:=D.box2;have hsD:=bLt d_0;obtain⟨e_0,e_1,e_2,e_3,e_4,e_5⟩:=E.box6;have hsE:=bLt e_0
  by_cases hjm:j<m
  ·obtain⟨b1,o1,k,r,_,rfl,P1,⟨rfl,hk64⟩,r1⟩:=(k0.out.below IntR.good hw).get hm.out hjm
   have f_0:wr.cell? ⟨b1,o1+j,none⟩=some (.int .i64 k):=by simpa using r1 0 _ rfl
   have hbb1:=World.block_lt_of_cell? _ _ f_0;dsimp only at hbb1
   have P1':=P1.out
   have hgood:=fun h=>all_stepL (f:=fun k=>decide (0<=k)&&decide (k<(n:Int))) hF.out P1' h
   have hbadk:(decide (0<=k)&&decide (k<(n:Int)))=false->res=false:=fun h=>by
    have h1:kidsIn n ks=false:=all_bad (f:=fun k=>decide (0<=k)&&decide (k<(n:Int))) P1' h
    rw[hres.out,h1];rfl
   clear r1 P1 P1' hF
   replace hgood:=kH hgood;replace hbadk:=kH hbadk
   by_cases hk0:k<0
   ·have d1:decide (k<0)=true:=decide_eq_true hk0
    have hr:=hbadk.out (by rw[decide_eq_false (by omega)];rfl)
    subst hr
    clear hbadk hgood hk0 hres
    go_wp2_with fail
    go_returns
    exact⟨rfl,hw⟩
   ·have d1:decide (k<0)=false:=decide_eq_false hk0
    by_cases hkn:(n:Int)<=k
    ·have d2:decide ((n:Int)<=k)=true:=decide_eq_true hkn
     have hr:=hbadk.out (by rw[decide_eq_false (by omega : ¬ k<(n:Int))];simp)
     subst hr
     clear hbadk hgood hk0 hkn hres
     go_wp2_with fail
     go_returns
     exact⟨rfl,hw⟩
    ·have d2:decide ((n:Int)<=k)=false:=decide_eq_false hkn
     have hF:=kH (hgood.out (by rw[decide_eq_true (by omega),decide_eq_true (by omega)];rfl))
     clear hbadk hgood hk0 hkn
     go_wp2_with fail
     go_roundw
     case rel=>exact⟨j+1,by omega,by go_num,hF,hw,D,E⟩
     case measure=>simp[intOf];omega
  ·obtain rfl:j=m:=by omega
   have hki:kidsIn n ks=true:=all_full (f:=fun k=>decide (0<=k)&&decide (k<(n:Int))) hF.out hm.out
   have hinA:∀k∈ks,0<=k/\k<(n:Int):=fun k hk=>by
    have:=List.all_eq_true.1 hki k hk
    simpa using this
   have hrb:res=body:=by rw[hres.out,hki];rfl
   replace hfk:Hid (0<j->∃ (j:Nat) (b o b2 o2:Nat) (y:Int),ka=some ⟨b,o,none⟩/\na=some ⟨b2,o2,none⟩/\w.cell? ⟨b,o,none⟩=some (.int .i64 (j:Int))/\j<n/\w.cell? ⟨b2,o2+j*6,none⟩=some (.int .i64 y)/\fk=y):=kH fun h=>hfk.out h hinA
   clear hres hki hinA hF k0
   replace hrb:=kH hrb
   have hm1:((j:Int) == 1)=decide (j=1):=by rw[Bool.eq_iff_iff];simp;omega
   replace hm1:=kH hm1
   generalize hpz:((pm:Int) == 0)=pz at *
   clear hm
   have hg:=hg.out
   subst hg
   replace hBody:body=(pz&&conShape s j ((j:Int) == 1&&fk == 11)):=hBody.out
   cases pz
   ·replace hBody:Hid (body=false):=kH hBody
    go_wp2_with fail
    (refine wp_region_ext_lit (by kernel_rfl) (by kernel_rfl) ?_;(repeat (any_goals (first|go_big_quiet_step ((first|fail))|quiet_step ((first|fail))|(refine wpQuiet_step (fun K hK=>?_);go_simp;split<;>(refine hK _ ?_;clear hK K)))));all_goals (refine wpQuiet_nil ?_;rintro w1 ⟨⟨w2,hb⟩,rfl⟩;have hw:=hw.trans (hb.mono hw.size);have D:=D.below hb;obtain⟨d_0,d_1⟩:=D.box2;have hsD:=bLt d_0;have E:=E.below hb;obtain⟨e_0,e_1,e_2,e_3,e_4,e_5⟩:=E.box6;have hsE:=bLt e_0;clear hb))
    go_wp2_with fail
    go_returns
    exact⟨by rw[hrb.out,hBody.out];rfl,hw⟩
   by_cases hj1:j=1
   ·subst hj1
    obtain⟨jj,b,o,b2,o2,y,rfl,rfl,c1,hjj,c2,rfl⟩:=hfk.out (by omega)
    replace c1:=cell_below hw c1
    replace c2:=cell_below hw c2
    have hbb:=World.block_lt_of_cell? _ _ c1;dsimp only at hbb
    have hbb2:=World.block_lt_of_cell? _ _ c2;dsimp only at hbb2
    have q1:decide ((jj:Int)<(n:Int))=true:=decide_eq_true (by omega)
    clear hfk
    have cS1:=fun W=>cS (fk == 11) W
    replace hBody:body=conShape s ((1:Nat):Int) (fk == 11):=hBody
    rw[<- hBody]at cS1
    clear cS hBody
    go_upto_region 15 with fail
    generalize he5:(fk == 11)=e5 at *
    (refine wp_region_ext_lit (by kernel_rfl) (by kernel_rfl) ?_;(repeat (any_goals (first|go_big_quiet_step ((first|(go_at_call 50;exact Calls.ext_same (cS1 _))))|quiet_step ((first|(go_at_call 50;exact Calls.ext_same (cS1 _))))|(refine wpQuiet_step (fun K hK=>?_);go_simp;split<;>(refine hK _ ?_;clear hK K)))));all_goals (refine wpQuiet_nil ?_;rintro w1 ⟨⟨w2,hb⟩,rfl⟩;have hw:=hw.trans (hb.mono hw.size);have D:=D.below hb;obtain⟨d_0,d_1⟩:=D.box2;have hsD:=bLt d_0;have E:=E.below hb;obtain⟨e_0,e_1,e_2,e_3,e_4,e_5⟩:=E.box6;have hsE:=bLt e_0;clear hb))
    all_goals go_wp2_with fail
    all_goals go_returns
    all_goals exact⟨by rw[hrb.out];rfl,hw⟩
   ·have e1:((j:Int) == 1)=false:=by rw[beq_eq_false_iff_ne];omega
    rw[e1]at hBody
    have cS1:=fun W=>cS false W
    replace hBody:body=conShape s j false:=hBody
    rw[<- hBody]at cS1
    clear cS hBody hj1 hfk
    go_upto_region 15 with fail
    (refine wp_region_ext_lit (by kernel_rfl) (by kernel_rfl) ?_;(repeat (any_goals (first|go_big_quiet_step ((first|(go_at_call 50;exact Calls.ext_same (cS1 _))))|quiet_step ((first|(go_at_call 50;exact Calls.ext_same (cS1 _))))|(refine wpQuiet_step (fun K hK=>?_);go_simp;split<;>(refine hK _ ?_;clear hK K)))));all_goals (refine wpQuiet_nil ?_;rintro w1 ⟨⟨w2,hb⟩,rfl⟩;have hw:=hw.trans (hb.mono hw.size);have D:=D.below hb;obtain⟨d_0,d_1⟩:=D.box2;have hsD:=bLt d_0;have E:=E.below hb;obtain⟨e_0,e_1,e_2,e_3,e_4,e_5⟩:=E.box6;have hsE:=bLt e_0;clear hb))
    all_goals go_wp2_with fail
    all_goals go_returns
    all_goals exact⟨by rw[hrb.out];rfl,hw⟩
end Go.Proofs.YtkikkfjmggobpaaGreat
