/- Parts of the proof, merged: Us19, Ut14. -/
import Derived.Test.YtkikkfjmggobpaaGreatDt28
namespace Go.Proofs.YtkikkfjmggobpaaGreat
open Go.RowKit
set_option maxRecDepth 100000
set_option maxHeartbeats 16000000
set_option linter.unusedVariables false
set_option linter.unusedSimpArgs false
attribute [local go_sem] Ext.cell
def chkT (Ts:List GType) (t:Nat) (x:GType):Prop:=(¬ 0<=givenN x.name/\∀i,i<t->∀y,Ts[i]? = some y->y.name≠x.name)/\(∀ (c:Nat) y,x.cons[c]? = some y->¬ Earlier Ts t c y.name)/\∀y∈x.cons,∀it∈y.arg.items,it.name≠ByteArray.empty->knownP Ts it.name it.arity=true
def chkOk (p:GProgram):Prop:=progOk p=true/\∀ (t:Nat) x,p.types[t]? = some x->chkT p.types t x
theorem chk_sizes {p:GProgram} (h:progOk p=true):p.types.length<=8/\∀x∈p.types,x.cons.length<=8/\∀y∈x.cons,y.arg.items.length<=200:=by
 unfold progOk shapeP at h
 rw[Bool.and_eq_true,Bool.and_eq_true,Bool.and_eq_true,Bool.and_eq_true,Bool.and_eq_true,List.all_eq_true,List.all_eq_true]at h
 obtain⟨⟨⟨-,h1⟩,-,-,h2⟩,-⟩:=h
 refine⟨by have:=of_decide_eq_true h1;omega,fun x hx=>?_⟩
 obtain⟨-,-,h3,h4⟩:=typeOk_parts (h2 x hx)
 refine⟨by omega,fun y hy=>?_⟩
 have hc1:=(h4 y hy).1
 cases hh:y.has
 ·rw[conHas_no hc1 hh];simp
 ·obtain⟨h5,-,h6⟩:=conHas_yes hc1 hh
  rw[h5,flatY_len];exact h6
def CTPost (Q:Prop) (w:World) (e:Ending) (w' : World):Prop:=(∃c i:Int,e=.returned (.tuple #[.int .i64 c,.int .i64 i])/\(c=0 ↔ Q))/\Below w.heap.size w w'
theorem CTPost.no {Q:Prop} {w w' : World} (h : ¬ Q) (hb:Below w.heap.size w w') (c i:Int) (hc:c≠0):CTPost Q w (.returned (.tuple #[.int .i64 c,.int .i64 i])) w':=⟨⟨c,i,rfl,fun h1=>absurd h1 hc,fun h1=>absurd h1 h⟩,hb⟩
theorem CTPost.yes {Q:Prop} {w w' : World} (h:Q) (hb:Below w.heap.size w w') (i:Int):CTPost Q w (.returned (.tuple #[.int .i64 0,.int .i64 i])) w':=⟨⟨0,i,rfl,fun _=>h,fun _=>rfl⟩,hb⟩
theorem CheckTypes_c (p:GProgram) (hs:ProgSm p) (r:List Value) (w:World) (hr:GProgram.R 0 w r p) :
  Calls Tryz.prog 20 #[.agg r.toArray] w fun e w'=>CTPost (chkOk p) w e w':=by
 have cP:=fun W (hW:Below w.heap.size w W)=>specProgramOk_c p hs r 0 W (GProgram.good.below hr hW)
 obtain⟨u0,u1,rfl,_,hT,hN⟩:=hr
 obtain⟨na,nc,rfl⟩:=hN.form
 obtain⟨ta,tc,rfl,tl,tm,t0⟩:=hT
 obtain⟨tn,hn⟩ : ∃n,n=p.types.length:=⟨_,rfl⟩
 obtain⟨nn,hnn⟩ : ∃n,n=p.nodes.length:=⟨_,rfl⟩
 rw[<- hn,<- hnn]at cP ⊢
 rw[<- hn]at tl
 have hfail:progOk p=false->¬ chkOk p:=fun h hc=>by rw[hc.1]at h;cases h
 have hall:progOk p=true->(∀t,t<tn->∀x,p.types[t]? = some x->chkT p.types t x)->chkOk p:=fun h h2=>⟨h,fun t x hx=>h2 t (by rw[hn];exact(List.getElem?_eq_some_iff.1 hx).1) x hx⟩
 have hbad:∀ (t:Nat) x,p.types[t]? = some x->¬ chkT p.types t x->¬ chkOk p:=fun t x h1 h2 h3=>h2 (h3.2 t x h1)
 have hsz:=chk_sizes (p:=p)
 rw[<- hn]at hsz
 have tK:∀W,Below w.heap.size w W->SlAt GType.R 3 0 W ta p.types:=fun W hW=>t0.below GType.good hW
 have tSl:∀W,Below w.heap.size w W->Sl GType.R 3 0 W (.slice ta tn tc) p.types:=fun W hW=>⟨ta,tc,by rw[hn],by rw[<- hn];exact tl,tm,tK W hW⟩
 generalize hpo:progOk p=po at *
 generalize chkOk p=Q at *
 generalize p.types=Ts at *
 show Calls Tryz.prog 20 #[.agg #[.slice ta tn tc,.slice na nn nc]] w _
 replace cP:∀W,Below w.heap.size w W->Calls Tryz.prog 45 #[.agg #[.slice ta tn tc,.slice na nn nc]] W fun e w'=>e=.returned (.bool po)/\Below W.heap.size W w':=cP
 clear t0 hN hs hpo hnn
 replace tK:=kH tK;replace tSl:=kH tSl;replace hn:=kH hn;replace hall:=kH hall;replace hbad:=kH hbad;replace hsz:=kH hsz;replace cP:=kH cP;replace hfail:=kH hfail
 cases po
 ·have hq:=hfail.out rfl
  clear hall hbad hsz
  replace hq:=kH hq
  go_enter Tryz.func20,Tryz.ntmps20
  go_upto_region 1 with fail
  have B:RowAt (w.alloc (.cells #[.slice ta tn tc,.slice na nn nc] 39)) (w.heap.size) 0 [.slice ta tn tc,.slice na nn nc]:=RowAt.box w #[.slice ta tn tc,.slice na nn nc] 39
  have hw:Below w.heap.size w (w.alloc (.cells #[.slice ta tn tc,.slice na nn nc] 39)):=by go_grown
  generalize (w.alloc (.cells #[.slice ta tn tc,.slice na nn nc] 39))=w0 at *
  obtain⟨b_0,b_1⟩:=B.box2;have hsB:=bLt b_0
  go_wp2_with (go_at_call 45;(with_reducible refine(cP.out _ hw).mono ?_);rintro e w2 ⟨rfl,hb2⟩)
  go_returns
  exact CTPost.no hq.out (hw.trans (hb2.mono hw.size)) 1 0 (by decide)
 have hz8:=(hsz.out rfl).1
 have hsz2:=(hsz.out rfl).2
 have hall2:=hall.out rfl
 clear hsz hall hfail
 replace hsz2:=kH hsz2;replace hall2:=kH hall2
 go_enter Tryz.func20,Tryz.ntmps20
 go_upto_region 1 with fail
 have B:RowAt (w.alloc (.cells #[.slice ta tn tc,.slice na nn nc] 39)) (w.heap.size) 0 [.slice ta tn tc,.slice na nn nc]:=RowAt.box w #[.slice ta tn tc,.slice na nn nc] 39
 have hw:Below w.heap.size w (w.alloc (.cells #[.slice ta tn tc,.slice na nn nc] 39)):=by go_grown
 generalize (w.alloc (.cells #[.slice ta tn tc,.slice na nn nc] 39))=w0 at *
 obtain⟨b_0,b_1⟩:=B.box2;have hsB:=bLt b_0
 go_wp2_with (go_at_call 45;(with_reducible refine(cP.out _ hw).mono ?_);rintro e w2 ⟨rfl,hb⟩;have hw:=hw.trans (hb.mono hw.size);have B:=B.below hb;obtain⟨b_0,b_1⟩:=B.box2;have hsB:=bLt b_0;clear hb)
 clear cP
 go_loopw [19] (fun ii wr=>∃t:Nat,t<=tn/\ii=.int .i64 t/\Hid (∀i,i<t->∀x,Ts[i]? = some x->chkT Ts i x)/\Below w.heap.size w wr/\RowAt wr w.heap.size 0 [.slice ta tn tc,.slice na nn nc]) (fun ii _=>tn-(intOf ii).toNat)
 case atStart=>exact⟨0,by omega,rfl,kH (fun i h=>by omega),hw,B⟩
 case round=>
  clear hw b_0 b_1 hsB B
  obtain⟨t,ht,rfl,hf,hw,B⟩:=hrel
  have hz:=hw.size
  obtain⟨b_0,b_1⟩:=B.box2;have hsB:=bLt b_0
  by_cases hlt:t<tn
  ·obtain⟨b1,o1,x,r1,_,hta,P1,⟨u0,rfl,hwf,hcs⟩,hr1⟩:=(tK.out w (Below.refl _ _)).get hn.out hlt
   subst hta
   replace hr1:=hr1.below hw
   obtain⟨ca,cc,rfl⟩:=hcs.form
   have hbadx:=hbad.out t x P1.out
   have hszx:=hsz2.out x (List.mem_of_getElem? P1.out)
   have hnx:chkT Ts t x->∀i,i<t+1->∀x,Ts[i]? = some x->chkT Ts i x:=fun h i hi y hy=>by
    by_cases hii:i<t
    ·exact hf.out i hii y hy
    ·obtain rfl:i=t:=by omega
     rw[P1.out]at hy;injection hy with hy;subst hy;exact h
   have cE:=fun(c:Nat) (y:GCon) (hy:x.cons[c]? = some y) W (hW:Below w.heap.size w W)=>l06Earlier_c Ts t c x y P1.out hy (.slice (some ⟨b1,o1,none⟩) tn tc) (.slice na nn nc) ⟨_,_,_,rfl⟩ W (tSl.out W hW) (by rw[<- hn.out];omega) (fun z hz=>by have:=(hsz2.out z hz).1;omega)
   obtain⟨tnm,htnm⟩ : ∃q,q=x.name:=⟨_,rfl⟩
   obtain⟨pr,hpr⟩ : ∃q,q=x.params:=⟨_,rfl⟩
   obtain⟨cn,hcn⟩ : ∃q,q=x.cons.length:=⟨_,rfl⟩
   rw[<- hcn,<- htnm,<- hpr]at hr1
   rw[<- hcn]at hszx
   have hcn8:=hszx.1
   have hszx2:=hszx.2
   have cG:=fun W=>l06Given_c tnm W
   obtain⟨g,hg⟩ : ∃g,g=givenN tnm:=⟨_,rfl⟩
   rw[<- hg]at cG
   have e_0:wr.cell? ⟨b1,o1+t*3,none⟩=some (.string tnm):=by simpa using hr1 0 _ rfl
   have e_1:wr.cell? ⟨b1,o1+t*3+1,none⟩=some (.int .i64 pr):=hr1 1 _ rfl
   have e_2:wr.cell? ⟨b1,o1+t*3+2,none⟩=some (.slice ca cn cc):=hr1 2 _ rfl
   have hbb1:=World.block_lt_of_cell? _ _ e_0;dsimp only at hbb1
   have cK:∀W,Below w.heap.size w W->Sl GCon.R 3 0 W (.slice ca cn cc) x.cons:=fun W hW=>by rw[hcn];exact hcs.below GCon.good hW
   clear hr1 hcs hwf hszx P1
   replace hbadx:=kH hbadx;replace hnx:=kH hnx;replace cE:=kH cE;replace htnm:=kH htnm;replace hpr:=kH hpr;replace hcn:=kH hcn;replace hszx2:=kH hszx2;replace cG:=kH cG;replace cK:=kH cK;replace hg:=kH hg
   go_upto_region 6 with fail
   obtain⟨w4,hW4⟩ : ∃W,W=wr.alloc (.cells #[.string tnm,.int .i64 pr,.slice ca cn cc] 101):=⟨_,rfl⟩
   rw[<- hW4]
   have hb4:Below wr.heap.size wr w4:=by rw[hW4];go_grown
   have X4:RowAt w4 wr.heap.size 0 [.string tnm,.int .i64 pr,.slice ca cn cc]:=by rw[hW4];exact RowAt.box wr #[_,_,_] _
   have B4:=B.below hb4
   have hw:=hw.trans (hb4.mono hz)
   obtain⟨xb,hxb⟩ : ∃q,q=wr.heap.size:=⟨_,rfl⟩
   rw[<- hxb]at X4 ⊢
   replace hxb:=kH hxb
   clear hW4 hb4 e_0 e_1 e_2 hbb1 B b_0 b_1 hsB
   obtain⟨b4_0,b4_1⟩:=B4.box2;have hsB4:=bLt b4_0;obtain⟨x4_0,x4_1,x4_2⟩:=X4.box3;have hsX4:=bLt x4_0
   go_wp2_with (go_at_call 46;(with_reducible refine(cG.out _).mono ?_);rintro e w5 ⟨rfl,hb⟩;have hw:=hw.trans (hb.mono hw.size);have B4:=B4.below hb;obtain⟨b4_0,b4_1⟩:=B4.box2;have hsB4:=bLt b4_0;have X4:=X4.below hb;obtain⟨x4_0,x4_1,x4_2⟩:=X4.box3;have hsX4:=bLt x4_0;clear hb)
   clear cG
   go_loopw [6,7] (fun sv iv wq=>∃ (k:Nat) (sb:Bool),k<=t/\iv=.int .i64 k/\sv=.bool sb/\Hid (sb=true ↔ 0<=g\/∃i,i<k/\∃y,Ts[i]? = some y/\y.name=tnm)/\Below w.heap.size w wq/\RowAt wq w.heap.size 0 [.slice (some ⟨b1,o1,none⟩) tn tc,.slice na nn nc]/\RowAt wq xb 0 [.string tnm,.int .i64 pr,.slice ca cn cc]) (fun _ iv _=>t-(intOf iv).toNat)
   case atStart=>
    refine⟨0,decide (0<=g),by omega,rfl,rfl,kH ⟨fun h=>.inl (of_decide_eq_true h),fun h=>decide_eq_true ?_⟩,hw,B4,X4⟩
    rcases h with h|⟨i,hi,_⟩
    ·exact h
    ·omega
   case round=>
    clear hw B4 b4_0 b4_1 hsB4 X4 x4_0 x4_1 x4_2 hsX4 hz
    obtain⟨k,sb,hk,rfl,rfl,hsb,hw,B,X⟩:=hrel
    have hz:=hw.size
    obtain⟨b_0,b_1⟩:=B.box2;have hsB:=bLt b_0;obtain⟨x_0,x_1,x_2⟩:=X.box3;have hsX:=bLt x_0
    by_cases hkt:k<t
    ·obtain⟨b2,o2,y,r2,_,hta,P2,⟨u2',rfl,hwf,hcs⟩,hr2⟩:=(tK.out _ hw).get hn.out (show k<tn by omega)
     injection hta with hta;injection hta with ht1 ht2 ht3;subst ht1;subst ht2
     obtain⟨ynm,hynm⟩ : ∃q,q=y.name:=⟨_,rfl⟩
     rw[<- hynm]at hr2
     have e_0:wr.cell? ⟨b1,o1+k*3,none⟩=some (.string ynm):=by simpa using hr2 0 _ rfl
     have hbb1:=World.block_lt_of_cell? _ _ e_0;dsimp only at hbb1
     have dnb:(ynm.toList == tnm.toList)=decide (ynm=tnm):=by rw[Bool.eq_iff_iff,beq_iff_eq,toList_eq,decide_eq_true_iff]
     have hit:ynm=tnm->(true=true ↔ 0<=g\/∃i,i<k+1/\∃y,Ts[i]? = some y/\y.name=tnm):=fun h=>⟨fun _=>.inr ⟨k,by omega,y,P2.out,by rw[<- hynm];exact h⟩,fun _=>rfl⟩
     have hms:ynm≠tnm->(sb=true ↔ 0<=g\/∃i,i<k+1/\∃y,Ts[i]? = some y/\y.name=tnm):=fun h=>by
      rw[hsb.out]
      refine or_congr_right ⟨fun⟨i,a1,a2⟩=>⟨i,by omega,a2⟩,fun⟨i,a1,z,a2,a3⟩=>?_⟩
      by_cases hik:i<k
      ·exact⟨i,hik,z,a2,a3⟩
      ·obtain rfl:i=k:=by omega
       rw[P2.out]at a2;injection a2 with a2;subst a2
       exact absurd (hynm.trans a3) h
     clear hr2 hcs hwf P2
     replace hynm:=kH hynm;replace hit:=kH hit;replace hms:=kH hms
     by_cases h1:ynm=tnm
     ·rw[decide_eq_true h1]at dnb
      have hi2:=kH (hit.out h1)
      replace h1:=kH h1
      go_upto_region 10 with fail
      (refine wp_region_ext_lit (by kernel_rfl) (by kernel_rfl) ?_;(repeat (any_goals (first|go_big_quiet_step ((first|fail))|quiet_step ((first|fail))|(refine wpQuiet_step (fun K hK=>?_);go_simp;split<;>(refine hK _ ?_;clear hK K)))));all_goals (refine wpQuiet_nil ?_;rintro w1 ⟨⟨w2,hb⟩,rfl⟩;have hw:=hw.trans (hb.mono hw.size);have B:=B.below hb;obtain⟨b_0,b_1⟩:=B.box2;have hsB:=bLt b_0;have X:=X.below hb;obtain⟨x_0,x_1,x_2⟩:=X.box3;have hsX:=bLt x_0;clear hb))
      go_wp2_with fail
      go_roundw
      case rel=>exact⟨k+1,true,by omega,by go_num,rfl,hi2,hw,B,X⟩
      case measure=>simp[intOf];omega
     ·rw[decide_eq_false h1]at dnb
      have hi2:=kH (hms.out h1)
      replace h1:=kH h1
      go_upto_region 10 with fail
      (refine wp_region_ext_lit (by kernel_rfl) (by kernel_rfl) ?_;(repeat (any_goals (first|go_big_quiet_step ((first|fail))|quiet_step ((first|fail))|(refine wpQuiet_step (fun K hK=>?_);go_simp;split<;>(refine hK _ ?_;clear hK K)))));all_goals (refine wpQuiet_nil ?_;rintro w1 ⟨⟨w2,hb⟩,rfl⟩;have hw:=hw.trans (hb.mono hw.size);have B:=B.below hb;obtain⟨b_0,b_1⟩:=B.box2;have hsB:=bLt b_0;have X:=X.below hb;obtain⟨x_0,x_1,x_2⟩:=X.box3;have hsX:=bLt x_0;clear hb))
      go_wp2_with fail
      go_roundw
      case rel=>exact⟨k+1,sb,by omega,by go_num,rfl,hi2,hw,B,X⟩
      case measure=>simp[intOf];omega
    ·obtain rfl:k=t:=by omega
     cases sb
     ·have hc1 : ¬ 0<=g/\∀i,i<k->∀y,Ts[i]? = some y->y.name≠tnm:=by
       have h:=hsb.out
       refine⟨fun h2=>?_,fun i hi y hy h2=>?_⟩
       ·have:=h.2 (.inl h2);cases this
       ·have:=h.2 (.inr ⟨i,hi,y,hy,h2⟩);cases this
      replace hc1:=kH hc1
      go_wp2_with fail
      go_loopw [47] (fun iv wq=>∃m:Nat,m<=cn/\iv=.int .i64 m/\Hid (∀i,i<m->∀y,x.cons[i]? = some y->¬ Earlier Ts k i y.name)/\Below w.heap.size w wq/\RowAt wq w.heap.size 0 [.slice (some ⟨b1,o1,none⟩) tn tc,.slice na nn nc]/\RowAt wq xb 0 [.string tnm,.int .i64 pr,.slice ca cn cc]) (fun iv _=>cn-(intOf iv).toNat)
      case atStart=>exact⟨0,by omega,rfl,kH (fun i h=>by omega),hw,B,X⟩
      case round=>
       clear hw B b_0 b_1 hsB X x_0 x_1 x_2 hsX hsb hz
       obtain⟨m,hm,rfl,hfm,hw,B,X⟩:=hrel
       have hz:=hw.size
       obtain⟨b_0,b_1⟩:=B.box2;have hsB:=bLt b_0;obtain⟨x_0,x_1,x_2⟩:=X.box3;have hsX:=bLt x_0
       by_cases hmt:m<cn
       ·obtain⟨y,hy⟩ : ∃y,x.cons[m]? = some y:=⟨_,List.getElem?_eq_getElem (by rw[<- hcn.out];exact hmt)⟩
        have cEy:=kH (cE.out m y hy)
        have hms : ¬ Earlier Ts k m y.name->∀i,i<m+1->∀y,x.cons[i]? = some y->¬ Earlier Ts k i y.name:=fun h i hi z hz=>by
         by_cases hii:i<m
         ·exact hfm.out i hii z hz
         ·obtain rfl:i=m:=by omega
          rw[hy]at hz;injection hz with hz;subst hz;exact h
        have hbd:Earlier Ts k m y.name->¬ Q:=fun h=>hbadx.out (fun hc=>hc.2.1 m y hy h)
        generalize Earlier Ts k m y.name=EE at *
        replace hy:=kH hy;replace hms:=kH hms;replace hbd:=kH hbd
        go_wp2_with (go_at_call 47;(with_reducible refine(cEy.out _ hw).mono ?_);rintro e w1 ⟨⟨rr,rfl,hrr⟩,hb⟩;have hw:=hw.trans (hb.mono hw.size);have B:=B.below hb;obtain⟨b_0,b_1⟩:=B.box2;have hsB:=bLt b_0;have X:=X.below hb;obtain⟨x_0,x_1,x_2⟩:=X.box3;have hsX:=bLt x_0;clear hb;replace hrr:=kH hrr;cases rr)
        ·have hi2:=kH (hms.out (fun h=>by have:=hrr.out.2 h;cases this))
         go_roundw
         case rel=>exact⟨m+1,by omega,by go_num,hi2,hw,B,X⟩
         case measure=>simp[intOf];omega
        ·have hq:=kH (hbd.out (by simpa using hrr.out))
         go_returns
         exact CTPost.no hq.out hw 12 k (by decide)
       ·obtain rfl:m=cn:=by omega
        have hc2:∀ (c:Nat) y,x.cons[c]? = some y->¬ Earlier Ts k c y.name:=fun c y hy=>hfm.out c (by rw[hcn.out];exact(List.getElem?_eq_some_iff.1 hy).1) y hy
        replace hc2:=kH hc2
        go_wp2_with fail
        go_loopw [59] (fun iv wq=>∃n:Nat,n<=m/\iv=.int .i64 n/\Hid (∀i,i<n->∀y,x.cons[i]? = some y->∀it∈y.arg.items,it.name≠ByteArray.empty->knownP Ts it.name it.arity=true)/\Below w.heap.size w wq/\RowAt wq w.heap.size 0 [.slice (some ⟨b1,o1,none⟩) tn tc,.slice na nn nc]/\RowAt wq xb 0 [.string tnm,.int .i64 pr,.slice ca m cc]) (fun iv _=>m-(intOf iv).toNat)
        case atStart=>exact⟨0,by omega,rfl,kH (fun i h=>by omega),hw,B,X⟩
        case round=>
         clear hw B b_0 b_1 hsB X x_0 x_1 x_2 hsX hfm hz
         obtain⟨n,hnm,rfl,hfn,hw,B,X⟩:=hrel
         have hz:=hw.size
         obtain⟨b_0,b_1⟩:=B.box2;have hsB:=bLt b_0;obtain⟨x_0,x_1,x_2⟩:=X.box3;have hsX:=bLt x_0
         by_cases hnt:n<m
         ·obtain⟨a',c',hv,hcl1,hcl2,hcA⟩:=cK.out w (Below.refl _ _)
          injection hv with e1 e2 e3;subst e1;clear e2 e3 hcl1 hcl2
          obtain⟨b3,o3,y,r3,_,hca,P3,⟨u7,rfl,hcw,hga⟩,hr3⟩:=hcA.get hcn.out hnt
          subst hca
          replace hr3:=hr3.below hw
          obtain⟨ga,gc,rfl⟩:=hga.form
          have hgi:=hszx2.out y (List.mem_of_getElem? P3.out)
          have hymem:=List.mem_of_getElem? P3.out
          obtain⟨gn,hgn⟩ : ∃q,q=y.arg.items.length:=⟨_,rfl⟩
          obtain⟨cnm,hcnm⟩ : ∃q,q=y.name:=⟨_,rfl⟩
          obtain⟨chas,hch⟩ : ∃q,q=y.has:=⟨_,rfl⟩
          rw[<- hgn]at hgi
          rw[<- hgn,<- hcnm,<- hch]at hr3
          have gK:∀W,Below w.heap.size w W->Sl GTyItem.R 3 0 W (.slice ga gn gc) y.arg.items:=fun W hW=>by rw[hgn];exact hga.below GTyItem.good hW
          have hbn:∀it∈y.arg.items,it.name≠ByteArray.empty->knownP Ts it.name it.arity=false->¬ Q:=fun it h1 h2 h3=>hbadx.out (fun hc=>by have:=hc.2.2 y hymem it h1 h2;rw[h3]at this;cases this)
          have hnn2:(∀it∈y.arg.items,it.name≠ByteArray.empty->knownP Ts it.name it.arity=true)->∀i,i<n+1->∀y,x.cons[i]? = some y->∀it∈y.arg.items,it.name≠ByteArray.empty->knownP Ts it.name it.arity=true:=fun h i hi z hz=>by
           by_cases hii:i<n
           ·exact hfn.out i hii z hz
           ·obtain rfl:i=n:=by omega
            rw[P3.out]at hz;injection hz with hz;subst hz;exact h
          have e_0:wr.cell? ⟨b3,o3+n*3,none⟩=some (.string cnm):=by simpa using hr3 0 _ rfl
          have e_1:wr.cell? ⟨b3,o3+n*3+1,none⟩=some (.bool chas):=hr3 1 _ rfl
          have e_2:wr.cell? ⟨b3,o3+n*3+2,none⟩=some (.slice ga gn gc):=hr3 2 _ rfl
          have hbb3:=World.block_lt_of_cell? _ _ e_0;dsimp only at hbb3
          clear hr3 hga hcw P3 hcA
          replace hgn:=kH hgn;replace hcnm:=kH hcnm;replace hch:=kH hch;replace gK:=kH gK;replace hbn:=kH hbn;replace hnn2:=kH hnn2;replace hymem:=kH hymem
          go_upto_region 23 with fail
          obtain⟨w6,hW6⟩ : ∃W,W=wr.alloc (.cells #[.string cnm,.bool chas,.slice ga gn gc] 105):=⟨_,rfl⟩
          rw[<- hW6]
          have hb6:Below wr.heap.size wr w6:=by rw[hW6];go_grown
          have C:RowAt w6 wr.heap.size 0 [.string cnm,.bool chas,.slice ga gn gc]:=by rw[hW6];exact RowAt.box wr #[_,_,_] _
          have B6:=B.below hb6
          have X6:=X.below hb6
          have hw6:=hw.trans (hb6.mono hz)
          obtain⟨cb,hcb⟩ : ∃q,q=wr.heap.size:=⟨_,rfl⟩
          rw[<- hcb]at C ⊢
          replace hcb:=kH hcb
          clear hW6 hb6 e_0 e_1 e_2 hbb3 B b_0 b_1 hsB X x_0 x_1 x_2 hsX hw hz
          obtain⟨b6_0,b6_1⟩:=B6.box2;have hsB6:=bLt b6_0;obtain⟨x6_0,x6_1,x6_2⟩:=X6.box3;have hsX6:=bLt x6_0;obtain⟨c_0,c_1,c_2⟩:=C.box3;have hsC:=bLt c_0
          go_wp2_with fail
          go_loopw [67] (fun iv wq=>∃q:Nat,q<=gn/\iv=.int .i64 q/\Hid (∀i,i<q->∀it,y.arg.items[i]? = some it->it.name≠ByteArray.empty->knownP Ts it.name it.arity=true)/\Below w.heap.size w wq/\RowAt wq w.heap.size 0 [.slice (some ⟨b1,o1,none⟩) tn tc,.slice na nn nc]/\RowAt wq xb 0 [.string tnm,.int .i64 pr,.slice (some ⟨b3,o3,none⟩) m cc]/\RowAt wq cb 0 [.string cnm,.bool chas,.slice ga gn gc]) (fun iv _=>gn-(intOf iv).toNat)
          case atStart=>exact⟨0,by omega,rfl,kH (fun i h=>by omega),hw6,B6,X6,C⟩
          case round=>
           clear hw6 B6 b6_0 b6_1 hsB6 X6 x6_0 x6_1 x6_2 hsX6 C c_0 c_1 c_2 hsC hfn
           obtain⟨q,hq,rfl,hfq,hw,B,X,C⟩:=hrel
           have hz:=hw.size
           obtain⟨b_0,b_1⟩:=B.box2;have hsB:=bLt b_0;obtain⟨x_0,x_1,x_2⟩:=X.box3;have hsX:=bLt x_0;obtain⟨c_0,c_1,c_2⟩:=C.box3;have hsC:=bLt c_0
           by_cases hqt:q<gn
           ·obtain⟨a',c',hv,hcl1,hcl2,hcA⟩:=gK.out w (Below.refl _ _)
            injection hv with e1 e2 e3;subst e1;clear e2 e3 hcl1 hcl2
            obtain⟨b7,o7,it,r7,_,hga,P7,⟨rfl,hiw⟩,hr7⟩:=hcA.get hgn.out hqt
            subst hga
            replace hr7:=hr7.below hw
            have hbi:=hbn.out it (List.mem_of_getElem? P7.out)
            have hni:(it.name≠ByteArray.empty->knownP Ts it.name it.arity=true)->∀i,i<q+1->∀it,y.arg.items[i]? = some it->it.name≠ByteArray.empty->knownP Ts it.name it.arity=true:=fun h i hi z hz=>by
             by_cases hii:i<q
             ·exact hfq.out i hii z hz
             ·obtain rfl:i=q:=by omega
              rw[P7.out]at hz;injection hz with hz;subst hz;exact h
            have cN:=fun W (hW:Below w.heap.size w W)=>l06Known_c Ts it.name it.arity (.slice (some ⟨b1,o1,none⟩) tn tc) (.slice na nn nc) ⟨_,_,_,rfl⟩ W (tSl.out W hW) (by rw[<- hn.out];omega)
            obtain⟨iv,hiv⟩ : ∃q,q=it.var:=⟨_,rfl⟩
            obtain⟨inm,hinm⟩ : ∃q,q=it.name:=⟨_,rfl⟩
            obtain⟨ia,hia⟩ : ∃q,q=it.arity:=⟨_,rfl⟩
            rw[<- hinm,<- hia]at hbi hni cN
            rw[<- hiv,<- hinm,<- hia]at hr7
            generalize knownP Ts inm ia=kn at *
            have e_0:wr.cell? ⟨b7,o7+q*3,none⟩=some (.int .i64 iv):=by simpa using hr7 0 _ rfl
            have e_1:wr.cell? ⟨b7,o7+q*3+1,none⟩=some (.string inm):=hr7 1 _ rfl
            have e_2:wr.cell? ⟨b7,o7+q*3+2,none⟩=some (.int .i64 ia):=hr7 2 _ rfl
            have hbb7:=World.block_lt_of_cell? _ _ e_0;dsimp only at hbb7
            clear hr7 hiw P7 hcA
            replace hbi:=kH hbi;replace hni:=kH hni;replace cN:=kH cN;replace hiv:=kH hiv;replace hinm:=kH hinm;replace hia:=kH hia
            go_upto_region 26 with fail
            obtain⟨w8,hW8⟩ : ∃W,W=wr.alloc (.cells #[.int .i64 iv,.string inm,.int .i64 ia] 107):=⟨_,rfl⟩
            rw[<- hW8]
            have hb:Below wr.heap.size wr w8:=by rw[hW8];go_grown
            have I:RowAt w8 wr.heap.size 0 [.int .i64 iv,.string inm,.int .i64 ia]:=by rw[hW8];exact RowAt.box wr #[_,_,_] _
            obtain⟨ib,hib⟩ : ∃q,q=wr.heap.size:=⟨_,rfl⟩
            rw[<- hib]at I ⊢
            replace hib:=kH hib
            clear hW8 e_0 e_1 e_2 hbb7
            have hw:=hw.trans (hb.mono hw.size);have B:=B.below hb;obtain⟨b_0,b_1⟩:=B.box2;have hsB:=bLt b_0;have X:=X.below hb;obtain⟨x_0,x_1,x_2⟩:=X.box3;have hsX:=bLt x_0;have C:=C.below hb;obtain⟨c_0,c_1,c_2⟩:=C.box3;have hsC:=bLt c_0;clear hb
            obtain⟨i_0,i_1,i_2⟩:=I.box3;have hsI:=bLt i_0
            by_cases h1:inm=ByteArray.empty
            ·have hi2:=kH (hni.out (fun h=>absurd h1 h))
             have dn:(inm.toList == ([] : List UInt8))=true:=(str_lit inm []).trans (decide_eq_true h1)
             have dn2:(inm.toList != ([] : List UInt8))=false:=by rw[bne,dn];rfl
             replace h1:=kH h1
             go_wp2_with fail
             go_roundw
             case rel=>exact⟨q+1,by omega,by go_num,hi2,hw,B,X,C⟩
             case measure=>simp[intOf];omega
            ·have dn:(inm.toList == ([] : List UInt8))=false:=(str_lit inm []).trans (decide_eq_false h1)
             have dn2:(inm.toList != ([] : List UInt8))=true:=by rw[bne,dn];rfl
             cases kn
             ·have hqq:=kH (hbi.out h1 rfl)
              replace h1:=kH h1
              go_wp2_with (go_at_call 48;(with_reducible refine(cN.out _ hw).mono ?_);rintro e w1 ⟨rfl,hb⟩;have hw:=hw.trans (hb.mono hw.size);have B:=B.below hb;obtain⟨b_0,b_1⟩:=B.box2;have hsB:=bLt b_0;have X:=X.below hb;obtain⟨x_0,x_1,x_2⟩:=X.box3;have hsX:=bLt x_0;have C:=C.below hb;obtain⟨c_0,c_1,c_2⟩:=C.box3;have hsC:=bLt c_0;clear hb)
              go_returns
              exact CTPost.no hqq.out hw 13 k (by decide)
             ·have hi2:=kH (hni.out (fun _=>rfl))
              replace h1:=kH h1
              go_wp2_with (go_at_call 48;(with_reducible refine(cN.out _ hw).mono ?_);rintro e w1 ⟨rfl,hb⟩;have hw:=hw.trans (hb.mono hw.size);have B:=B.below hb;obtain⟨b_0,b_1⟩:=B.box2;have hsB:=bLt b_0;have X:=X.below hb;obtain⟨x_0,x_1,x_2⟩:=X.box3;have hsX:=bLt x_0;have C:=C.below hb;obtain⟨c_0,c_1,c_2⟩:=C.box3;have hsC:=bLt c_0;clear hb)
              go_roundw
              case rel=>exact⟨q+1,by omega,by go_num,hi2,hw,B,X,C⟩
              case measure=>simp[intOf];omega
           ·obtain rfl:q=gn:=by omega
            have hi2:=kH (hnn2.out (fun it hit=>by
             obtain⟨i,hi⟩:=List.getElem?_of_mem hit
             exact hfq.out i (by rw[hgn.out];exact(List.getElem?_eq_some_iff.1 hi).1) it hi))
            go_wp2_with fail
            go_roundw
            case rel=>exact⟨n+1,by omega,by go_num,hi2,hw,B,X⟩
            case measure=>simp[intOf];omega
         ·obtain rfl:n=m:=by omega
          have hi2:=kH (hnx.out ⟨by rw[<- htnm.out,<- hg.out];exact⟨by have:=hc1.out.1;omega,hc1.out.2⟩,hc2.out,fun y hy=>by
           obtain⟨i,hi⟩:=List.getElem?_of_mem hy
           exact hfn.out i (by rw[hcn.out];exact(List.getElem?_eq_some_iff.1 hi).1) y hi⟩)
          go_wp2_with fail
          go_roundw
          case rel=>exact⟨k+1,by omega,by go_num,hi2,hw,B⟩
          case measure=>simp[intOf];omega
     ·have hq:=kH (hbadx.out (fun hc=>by
       rcases hsb.out.1 rfl with h|⟨i,hi,y,hy,h⟩
       ·exact hc.1.1 (by rw[<- htnm.out,<- hg.out];exact h)
       ·exact hc.1.2 i hi y hy (h.trans htnm.out)))
      go_wp2_with fail
      go_returns
      exact CTPost.no hq.out hw 11 k (by decide)
  ·obtain rfl:t=tn:=by omega
   have hq:=kH (hall2.out hf.out)
   go_wp2_with fail
   go_returns
   exact CTPost.yes hq.out hw 0
def knownI (Ts:List GType) (nm:ByteArray) (ar:Int):Bool:=if 0<=givenN nm then decide (givenN nm=ar) else Ts.any fun t=>t.name.toList == nm.toList&&t.params == ar
theorem knownTy1_c (t:GType) (r:List Value) (lo:Nat) (w:World) (hr:GType.R lo w r t) (b:Nat) (va ar:Int) (nm:ByteArray) (hb:RowAt w b 0 [.int .i64 va,.string nm,.int .i64 ar]) :
  Calls Tryz.prog 110 #[.agg r.toArray,.pointer (some ⟨b,0,none⟩)] w fun e w'=>e=.returned (.bool (t.name.toList == nm.toList&&t.params == ar))/\Below w.heap.size w w':=by
 obtain⟨u,rfl,-,hs⟩:=hr
 obtain⟨ua,uc,rfl⟩:=hs.form
 obtain⟨b_0,b_1,b_2⟩:=hb.box3
 have hbl:=World.block_lt_of_cell? _ _ b_0;dsimp only at hbl
 generalize t.name=tn at *
 generalize t.params=tp at *
 generalize t.cons.length=m at *
 clear hs
 show Calls Tryz.prog 110 #[.agg #[.string tn,.int .i64 tp,.slice ua m uc],.pointer (some ⟨b,0,none⟩)] w _
 obtain⟨q,hq⟩ : ∃q,(tn.toList == nm.toList)=q:=⟨_,rfl⟩
 rw[hq]
 cases q
 ·go_enter Tryz.func110,Tryz.ntmps110
  go_wp2_with fail
  go_returns
  exact⟨by first|rfl|simp,by go_grown⟩
 ·go_enter Tryz.func110,Tryz.ntmps110
  go_wp2_with fail
  go_returns
  exact⟨by first|rfl|simp,by go_grown⟩
theorem knownTy_c (Ts:List GType) (hTl:Ts.length<=1000000) (tv:Value) (va ar:Int) (nm:ByteArray) (w:World) (hM:Sl GType.R 3 0 w tv Ts) :
  Calls Tryz.prog 65 #[tv,.agg #[.int .i64 va,.string nm,.int .i64 ar]] w fun e w'=>e=.returned (.bool (knownI Ts nm ar))/\Below w.heap.size w w':=by
 have c1:=str_lit nm [105,110,116]
 have c2:=str_lit nm [98,111,111,108]
 have c3:=str_lit nm [115,116,114,105,110,103]
 have c4:=str_lit nm [117,110,105,116]
 have c5:=str_lit nm [108,105,115,116]
 have c6:=str_lit nm [114,101,102]
 have c7:=str_lit nm [45,62]
 have c8:=str_lit nm [42]
 have cF:∀W b,Below w.heap.size w W->RowAt W b 0 [.int .i64 va,.string nm,.int .i64 ar]->Calls Tryz.prog 60 #[tv,.func (.func 110) #[] #[.pointer (some ⟨b,0,none⟩)]] W fun e w'=>e=.returned (.bool (Ts.any fun t=>t.name.toList == nm.toList&&t.params == ar))/\Below W.heap.size W w':=fun W b hW hb=>
  containsFuncType_c Ts _ 110 _ 0 tv W (hM.below GType.good hW) (fun i x r W2 hx hW2 hr=>knownTy1_c x r 0 W2 hr b va ar nm (hb.below hW2)) (fun _ _=>by kernel_rfl)
 obtain⟨kq,hkq⟩ : ∃q,q=knownI Ts nm ar:=⟨_,rfl⟩
 rw[<- hkq]
 obtain⟨ta,tc,rfl⟩:=hM.form
 obtain⟨tn,htn⟩ : ∃q,q=Ts.length:=⟨_,rfl⟩
 rw[<- htn]at cF ⊢
 clear hM
 replace cF:=kH cF;replace htn:=kH htn
 by_cases g0:nm=nmInt\/nm=nmBool\/nm=nmString\/nm=nmUnit
 ·have hk:kq=(ar == 0):=by
   rw[hkq];unfold knownI givenN
   rw[if_pos g0];simp only[Int.le_refl,if_true]
   rw[Bool.eq_iff_iff,decide_eq_true_iff,beq_iff_eq];exact eq_comm
  replace hkq:=kH hkq
  have hv:kq=(ar == 0):=hk
  replace hk:=kH hk
  clear c5 c6 c7 c8 hv
  have hdd:(∃q1 q2 q3 q4:Bool,(nm.toList == [105,110,116])=q1/\(nm.toList == [98,111,111,108])=q2/\(nm.toList == [115,116,114,105,110,103])=q3/\(nm.toList == [117,110,105,116])=q4/\(q1||q2||q3||q4)=true):=by
   refine⟨_,_,_,_,rfl,rfl,rfl,rfl,?_⟩
   rw[c1,c2,c3,c4]
   rcases g0 with h|h|h|h<;>rw[h]<;>decide
  obtain⟨q1,q2,q3,q4,d1,d2,d3,d4,hq⟩:=hdd
  clear c1 c2 c3 c4 g0
  replace hq:=kH hq
  go_enter Tryz.func65,Tryz.ntmps65
  go_upto_region 1 with fail
  have X:RowAt (w.alloc (.cells #[.int .i64 va,.string nm,.int .i64 ar] 107)) (w.heap.size) 0 [.int .i64 va,.string nm,.int .i64 ar]:=RowAt.box w #[.int .i64 va,.string nm,.int .i64 ar] 107
  have hw:Below w.heap.size w (w.alloc (.cells #[.int .i64 va,.string nm,.int .i64 ar] 107)):=by go_grown
  generalize (w.alloc (.cells #[.int .i64 va,.string nm,.int .i64 ar] 107))=w0 at *
  obtain⟨x_0,x_1,x_2⟩:=X.box3;have hsX:=bLt x_0
  cases q1
  ·cases q2
   ·cases q3
    ·cases q4
     ·have:=hq.out;simp at this
     ·go_wp2_with fail
      go_returns
      exact⟨by rw[hk.out];rfl,hw⟩
    ·go_wp2_with fail
     go_returns
     exact⟨by rw[hk.out];rfl,hw⟩
   ·go_wp2_with fail
    go_returns
    exact⟨by rw[hk.out];rfl,hw⟩
  ·go_wp2_with fail
   go_returns
   exact⟨by rw[hk.out];rfl,hw⟩
 ·have d1:(nm.toList == [105,110,116])=false:=c1.trans (decide_eq_false fun h=>g0 (.inl h))
  have d2:(nm.toList == [98,111,111,108])=false:=c2.trans (decide_eq_false fun h=>g0 (.inr (.inl h)))
  have d3:(nm.toList == [115,116,114,105,110,103])=false:=c3.trans (decide_eq_false fun h=>g0 (.inr (.inr (.inl h))))
  have d4:(nm.toList == [117,110,105,116])=false:=c4.trans (decide_eq_false fun h=>g0 (.inr (.inr (.inr h))))
  clear c1 c2 c3 c4
  by_cases g1:nm=nmList\/nm=nmRef
  ·have hk:kq=(ar == 1):=by
    rw[hkq];unfold knownI givenN
    rw[if_neg g0,if_pos g1,if_pos (by decide)]
    rw[Bool.eq_iff_iff,decide_eq_true_iff,beq_iff_eq];exact eq_comm
   replace hkq:=kH hkq;replace hk:=kH hk
   have hdd:(∃q1 q2:Bool,(nm.toList == [108,105,115,116])=q1/\(nm.toList == [114,101,102])=q2/\(q1||q2)=true):=by
    refine⟨_,_,rfl,rfl,?_⟩
    rw[c5,c6]
    rcases g1 with h|h<;>rw[h]<;>decide
   obtain⟨q1,q2,d5,d6,hq⟩:=hdd
   clear c5 c6 c7 c8 g0 g1
   replace hq:=kH hq
   go_enter Tryz.func65,Tryz.ntmps65
   go_upto_region 1 with fail
   have X:RowAt (w.alloc (.cells #[.int .i64 va,.string nm,.int .i64 ar] 107)) (w.heap.size) 0 [.int .i64 va,.string nm,.int .i64 ar]:=RowAt.box w #[.int .i64 va,.string nm,.int .i64 ar] 107
   have hw:Below w.heap.size w (w.alloc (.cells #[.int .i64 va,.string nm,.int .i64 ar] 107)):=by go_grown
   generalize (w.alloc (.cells #[.int .i64 va,.string nm,.int .i64 ar] 107))=w0 at *
   obtain⟨x_0,x_1,x_2⟩:=X.box3;have hsX:=bLt x_0
   cases q1
   ·cases q2
    ·have:=hq.out;simp at this
    ·go_wp2_with fail
     go_returns
     exact⟨by rw[hk.out];rfl,hw⟩
   ·go_wp2_with fail
    go_returns
    exact⟨by rw[hk.out];rfl,hw⟩
  ·have d5:(nm.toList == [108,105,115,116])=false:=c5.trans (decide_eq_false fun h=>g1 (.inl h))
   have d6:(nm.toList == [114,101,102])=false:=c6.trans (decide_eq_false fun h=>g1 (.inr h))
   clear c5 c6
   by_cases g2:nm=nmArr\/nm=nmStar
   ·have hk:kq=(ar == 2):=by
     rw[hkq];unfold knownI givenN
     rw[if_neg g0,if_neg g1,if_pos g2,if_pos (by decide)]
     rw[Bool.eq_iff_iff,decide_eq_true_iff,beq_iff_eq];exact eq_comm
    replace hkq:=kH hkq;replace hk:=kH hk
    have hdd:(∃q1 q2:Bool,(nm.toList == [45,62])=q1/\(nm.toList == [42])=q2/\(q1||q2)=true):=by
     refine⟨_,_,rfl,rfl,?_⟩
     rw[c7,c8]
     rcases g2 with h|h<;>rw[h]<;>decide
    obtain⟨q1,q2,d7,d8,hq⟩:=hdd
    clear c7 c8 g0 g1 g2
    replace hq:=kH hq
    go_enter Tryz.func65,Tryz.ntmps65
    go_upto_region 1 with fail
    have X:RowAt (w.alloc (.cells #[.int .i64 va,.string nm,.int .i64 ar] 107)) (w.heap.size) 0 [.int .i64 va,.string nm,.int .i64 ar]:=RowAt.box w #[.int .i64 va,.string nm,.int .i64 ar] 107
    have hw:Below w.heap.size w (w.alloc (.cells #[.int .i64 va,.string nm,.int .i64 ar] 107)):=by go_grown
    generalize (w.alloc (.cells #[.int .i64 va,.string nm,.int .i64 ar] 107))=w0 at *
    obtain⟨x_0,x_1,x_2⟩:=X.box3;have hsX:=bLt x_0
    cases q1
    ·cases q2
     ·have:=hq.out;simp at this
     ·go_wp2_with fail
      go_returns
      exact⟨by rw[hk.out];rfl,hw⟩
    ·go_wp2_with fail
     go_returns
     exact⟨by rw[hk.out];rfl,hw⟩
   ·have d7:(nm.toList == [45,62])=false:=c7.trans (decide_eq_false fun h=>g2 (.inl h))
    have d8:(nm.toList == [42])=false:=c8.trans (decide_eq_false fun h=>g2 (.inr h))
    have hk:(Ts.any fun t=>t.name.toList == nm.toList&&t.params == ar)=kq:=by
     rw[hkq];unfold knownI givenN
     rw[if_neg g0,if_neg g1,if_neg g2,if_neg (by decide)]
    rw[hk]at cF
    replace hkq:=kH hkq
    clear c7 c8 g0 g1 g2 hk
    go_enter Tryz.func65,Tryz.ntmps65
    go_upto_region 1 with fail
    have X:RowAt (w.alloc (.cells #[.int .i64 va,.string nm,.int .i64 ar] 107)) (w.heap.size) 0 [.int .i64 va,.string nm,.int .i64 ar]:=RowAt.box w #[.int .i64 va,.string nm,.int .i64 ar] 107
    have hw:Below w.heap.size w (w.alloc (.cells #[.int .i64 va,.string nm,.int .i64 ar] 107)):=by go_grown
    generalize (w.alloc (.cells #[.int .i64 va,.string nm,.int .i64 ar] 107))=w0 at *
    obtain⟨x_0,x_1,x_2⟩:=X.box3;have hsX:=bLt x_0
    have cF0:=cF.out w0 w.heap.size hw X
    go_wp2_with (go_at_call 60;(with_reducible refine cF0.mono ?_);rintro e w2 ⟨rfl,hb2⟩)
    go_returns
    exact⟨rfl,hw.trans (hb2.mono hw.size)⟩
end Go.Proofs.YtkikkfjmggobpaaGreat
