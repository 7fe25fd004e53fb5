/- Parts of the proof, merged: Us13, Ut10. -/
import Derived.Test.YtkikkfjmggobpaaGreatDt18
namespace Go.Proofs.YtkikkfjmggobpaaGreat
open Go.RowKit
set_option maxRecDepth 100000
set_option maxHeartbeats 16000000
set_option linter.unusedVariables false
set_option linter.unusedSimpArgs false
attribute [local go_sem] Ext.cell
def argVs (n:Nat):Nat->List TyT
 |0=>[]
 |k+1=>argVs n k ++ [.v ((n+k:Nat):Int)]
theorem argVs_len (n:Nat):∀k,(argVs n k).length=k
 |0=>rfl
 |k+1=>by rw[argVs,List.length_append,argVs_len n k];rfl
theorem ownY_named (name:ByteArray) (n:Nat):∀k,k<=2->namedL name k (tysOf (argVs n k))=flatY (ownY name n k)
 |0,_=>rfl
 |1,_=>by simp[namedL,tysOf,argVs,ownY,flatY]
 |2,_=>by simp[namedL,tysOf,argVs,ownY,flatY]
 |k+3,h=>by omega
theorem findC_none_cons {name:ByteArray} {u:GType} {L:List GType} (h:findC name (u :: L)=none):u.cons.find? (fun c=>decide (c.name=name))=none/\findC name L=none:=by
 unfold findC at h
 split at h
 ·cases h
 ·rename_i hd;exact⟨hd,h⟩
theorem findC_cons_none {name:ByteArray} {u:GType} {L:List GType} (h:u.cons.find? (fun c=>decide (c.name=name))=none):findC name (u :: L)=findC name L:=by
 rw[findC,h]
theorem findC_skip {name:ByteArray} : ∀ {L:List GType} {t:GType} {M:List GType},findC name L=none->(∀c∈t.cons,c.name≠name)->findC name (L++t :: M)=findC name M
 |[],t,M,_,h=>findC_cons_none (List.find?_eq_none.2 fun c hc=>by simpa using h c hc)
 |u :: L,t,M,h1,h2=>by
  obtain⟨h3,h4⟩:=findC_none_cons h1
  rw[List.cons_append,findC_cons_none h3]
  exact findC_skip h4 h2
theorem findC_hit {name:ByteArray} : ∀ {L:List GType} {t:GType} {M:List GType} {A B:List GCon} {c:GCon},findC name L=none->t.cons=A++c :: B->(∀d∈A,d.name≠name)->c.name=name->findC name (L++t :: M)=some (t,c)
 |[],t,M,A,B,c,_,ht,hA,hc=>by
  rw[List.nil_append,findC]
  have:t.cons.find? (fun c=>decide (c.name=name))=some c:=by
   rw[ht,List.find?_append,List.find?_eq_none.2 fun d hd=>by simpa using hA d hd]
   simp[hc]
  rw[this]
 |u :: L,t,M,A,B,c,h1,ht,hA,hc=>by
  obtain⟨h3,h4⟩:=findC_none_cons h1
  rw[List.cons_append,findC_cons_none h3]
  exact findC_hit h4 ht hA hc
theorem info_TyS:(Tryz.prog.info? 33).map (fun i=>(i.zero,i.size,i.bytes))=some (some (.agg #[.slice none 0 0]),1,24):=by kernel_rfl
theorem putL_nil (σ:Sbs):putL σ []=[]:=rfl
theorem l06ConC_c {b tn tc:Nat} {ta:Option Addr} {P1 lv:Value} {w:World} {s:IS} {T:List GType} (S:SB b (.slice ta tn tc) P1 w s lv) (hM:TyMem b (.slice ta tn tc) T w) (hT:TysOk T) (hn:s.nx<=900000) (name:ByteArray) (hA : ¬ (name=nmTrue\/name=nmFalse)) (hB : ¬ (name=nmNil\/name=nmCons)) :
  Calls Tryz.prog 94 #[.pointer (some ⟨b,0,none⟩),.string name] w (ConPost b (.slice ta tn tc) P1 lv T name w s):=by
 have hlt:=S.lt
 have hcN:findC name T=none->conI T name s.nx=none:=fun h=>by unfold conI;rw[if_neg hA,if_neg hB,h]
 have hcS:∀t c,findC name T=some (t,c)->conI T name s.nx=some ⟨ownY t.name s.nx t.params.toNat,subY (newVs s.nx t.params.toNat) (treeY c.arg.items),c.has,t.params.toNat⟩:=fun t c h=>by unfold conI;rw[if_neg hA,if_neg hB,h]
 have hmiss:findC name T=none->∀W,SB b (.slice ta tn tc) P1 W s lv->IFr b w W->ConPost b (.slice ta tn tc) P1 lv T name w s (.returned (.tuple #[.agg #[.slice none 0 0],.agg #[.slice none 0 0],.bool false,.bool false])) W:=fun h0 W h1 h2=>by
  refine⟨_,_,false,false,s.nx,rfl,h1,h2,⟨_,_,_,rfl⟩,⟨_,_,_,rfl⟩,?_⟩
  rw[hcN h0]
  exact⟨rfl,rfl,rfl⟩
 have hhit:∀t c,findC name T=some (t,c)->∀W v1 v2,SB b (.slice ta tn tc) P1 W ⟨s.sub,s.nx+t.params.toNat,s.cd,s.at_⟩ lv->IFr b w W->(∃a n c,v1=Value.slice a n c)->(∃a n c,v2=Value.slice a n c)->Sl GTyItem.R 3 w.heap.size W v1 (flatY (ownY t.name s.nx t.params.toNat))->Sl GTyItem.R 3 w.heap.size W v2 (putL (newVs s.nx t.params.toNat) c.arg.items)->ConPost b (.slice ta tn tc) P1 lv T name w s (.returned (.tuple #[.agg #[v1],.agg #[v2],.bool c.has,.bool true])) W:=fun t c h0 W v1 v2 h1 h2 h3 h4 h5 h6=>by
  refine⟨v1,v2,_,true,_,rfl,h1,h2,h3,h4,?_⟩
  rw[hcS t c h0]
  refine⟨rfl,rfl,rfl,h5,fun hh=>?_⟩
  obtain⟨m1,m2⟩:=findC_mem h0
  obtain⟨-,-,-,h7⟩:=typeOk_parts (hT t m1).1
  obtain⟨h8,h9,-⟩:=conHas_yes (h7 c m2).1 hh
  rw[h8,putL_flat _ _ h9]at h6
  exact h6
 generalize ConPost b (.slice ta tn tc) P1 lv T name w s=Q at *
 obtain⟨wp,hp1,hp2,hp3⟩:=hM
 have hpw:∀W,Below b w W->Below wp.heap.size wp W:=fun W hW=>hp3.trans (hW.mono hp2)
 have hTl:tn=T.length:=by obtain⟨a,c,hv,-⟩:=hp1;injection hv
 have htc:tn<=tc/\tc<=9223372036854775807:=by obtain⟨a,c,hv,h1,h2,-⟩:=hp1;injection hv with e1 e2 e3;omega
 have tK:SlAt GType.R 3 0 wp ta T:=by obtain⟨a,c,hv,h1,h2,h3⟩:=hp1;injection hv with e1 e2 e3;subst e1;exact h3
 have c1:(name.toList == [116,114,117,101])=false:=(str_lit name [116,114,117,101]).trans (decide_eq_false (fun h=>hA (.inl h)))
 have c2:(name.toList == [102,97,108,115,101])=false:=(str_lit name [102,97,108,115,101]).trans (decide_eq_false (fun h=>hA (.inr h)))
 have c3:(name.toList == [91,93])=false:=(str_lit name [91,93]).trans (decide_eq_false (fun h=>hB (.inl h)))
 have c4:(name.toList == [58,58])=false:=(str_lit name [58,58]).trans (decide_eq_false (fun h=>hB (.inr h)))
 have hs0:s.cd=0->∀W,IFr b w W->Sl SubR 2 (b+1) W lv s.sub:=fun h W hW=>hW.sl SubR.good (S.sl h)
 clear hA hB hcN hcS hp1 hp2 hp3
 replace hpw:=kH hpw
 replace hmiss:=kH hmiss;replace hhit:=kH hhit;replace hTl:=kH hTl;replace tK:=kH tK;replace hs0:=kH hs0;replace hT:=kH hT
 have htc1:=htc.1
 have htc2:=htc.2
 clear htc
 go_enter Tryz.func94,Tryz.ntmps94
 go_upto_region 1 with fail
 have R:RowAt (w.alloc (.cells #[.slice none 0 0] 33)) (w.heap.size) 0 [.slice none 0 0]:=RowAt.box w #[.slice none 0 0] 33
 have RW:Wr (w.alloc (.cells #[.slice none 0 0] 33)) (w.heap.size) 0 1:=Wr.box w #[.slice none 0 0] 33
 have R:=R.below (show Below (w.alloc (.cells #[.slice none 0 0] 33)).heap.size (w.alloc (.cells #[.slice none 0 0] 33)) ((w.alloc (.cells #[.slice none 0 0] 33)).alloc (.cells #[.slice none 0 0] 33)) by go_grown)
 have RW:=RW.below (show Below (w.alloc (.cells #[.slice none 0 0] 33)).heap.size (w.alloc (.cells #[.slice none 0 0] 33)) ((w.alloc (.cells #[.slice none 0 0] 33)).alloc (.cells #[.slice none 0 0] 33)) by go_grown)
 have E:RowAt ((w.alloc (.cells #[.slice none 0 0] 33)).alloc (.cells #[.slice none 0 0] 33)) (w.heap.size+1) 0 [.slice none 0 0]:=by have h:=RowAt.box (w.alloc (.cells #[.slice none 0 0] 33)) #[.slice none 0 0] 33;simp only[World.size_alloc]at h;exact h
 have EW:Wr ((w.alloc (.cells #[.slice none 0 0] 33)).alloc (.cells #[.slice none 0 0] 33)) (w.heap.size+1) 0 1:=by have h:=Wr.box (w.alloc (.cells #[.slice none 0 0] 33)) #[.slice none 0 0] 33;simp only[World.size_alloc]at h;exact h
 have hw:Below w.heap.size w ((w.alloc (.cells #[.slice none 0 0] 33)).alloc (.cells #[.slice none 0 0] 33)):=by go_grown
 generalize ((w.alloc (.cells #[.slice none 0 0] 33)).alloc (.cells #[.slice none 0 0] 33))=w0 at *
 have S0:=S.below hw
 have hlt0:=S0.lt
 obtain⟨⟨s_0,s_1,s_2,s_3,s_4,s_5⟩,-⟩:=S0.cells
 have hsE0:=World.block_lt_of_cell? _ _ (E 0 _ rfl)
 dsimp only at hsE0
 have hz0:=hw.size
 go_wp2_with fail
 go_loopw [50] (fun ii wr=>∃i:Nat,i<=tn/\ii=.int .i64 i/\Hid (findC name (T.take i)=none)/\Below w.heap.size w wr/\RowAt wr w.heap.size 0 [.slice none 0 0]/\Wr wr w.heap.size 0 1/\RowAt wr (w.heap.size+1) 0 [.slice none 0 0]/\Wr wr (w.heap.size+1) 0 1) (fun ii _=>tn-(intOf ii).toNat)
 case atStart=>exact⟨0,by omega,rfl,kH rfl,hw,R,RW,E,EW⟩
 case round=>
  clear hw R RW E EW S0 s_0 s_1 s_2 s_3 s_4 s_5 hsE0 hlt0 hz0
  obtain⟨i,hi,rfl,hfi,hw,R,RW,E,EW⟩:=hrel
  have hz:=hw.size
  by_cases hlt2:i<tn
  ·obtain⟨b1,o1,t,r1,_,rfl,P1',⟨u0,rfl,hwf,hcs⟩,hr1⟩:=(tK.out).get hTl.out hlt2
   replace hr1:=hr1.below (hpw.out wr (hw.mono (Nat.le_of_lt hlt)))
   obtain⟨ca,cc,rfl⟩:=hcs.form
   have htm:=List.mem_of_getElem? P1'.out
   obtain⟨htok,-,hcwf⟩:=hT.out t htm
   obtain⟨htn,htp,htc8,htc9⟩:=typeOk_parts htok
   obtain⟨pr,hpr⟩ : ∃pr:Nat,t.params=(pr:Int):=⟨t.params.toNat,by omega⟩
   have hpr2:pr<=2:=by omega
   have hTs:T=T.take i++t :: T.drop (i+1):=by
    obtain⟨h1,rfl⟩:=List.getElem?_eq_some_iff.1 P1'.out
    rw[<- List.drop_eq_getElem_cons h1,List.take_append_drop]
   have hskip:(∀c∈t.cons,c.name≠name)->findC name (T.take (i+1))=none:=fun h=>by
    rw[List.take_add_one,P1'.out,Option.toList_some,findC_skip hfi.out h];rfl
   have hhit1:∀A B c,t.cons=A++c :: B->(∀d∈A,d.name≠name)->c.name=name->findC name T=some (t,c):=fun A B c h1 h2 h3=>by
    conv=>lhs;rw[hTs]
    exact findC_hit hfi.out h1 h2 h3
   have hh2:=fun c h=>hhit.out t c h
   rw[hpr]at hh2 hr1
   have cK:SlAt GCon.R 3 0 wp ca t.cons:=by
    obtain⟨a',c',hv,h1,h2,h3⟩:=hcs
    injection hv with e1 e2 e3;subst e1;exact h3
   obtain⟨cn,hcn⟩ : ∃q,q=t.cons.length:=⟨_,rfl⟩
   obtain⟨tnm,htnm⟩ : ∃q,q=t.name:=⟨_,rfl⟩
   rw[<- hcn,<- htnm]at hr1
   have hcn8:cn<=8:=by omega
   rw[<- htnm]at htn
   have hsT:StrOk tnm:=by rw[htnm];exact hwf.1
   have e_0:wr.cell? ⟨b1,o1+i*3,none⟩=some (.string tnm):=by simpa using hr1 0 _ rfl
   have e_1:wr.cell? ⟨b1,o1+i*3+1,none⟩=some (.int .i64 (pr:Int)):=hr1 1 _ rfl
   have e_2:wr.cell? ⟨b1,o1+i*3+2,none⟩=some (.slice ca cn cc):=hr1 2 _ rfl
   have hbb1:=World.block_lt_of_cell? _ _ e_0;dsimp only at hbb1
   clear hr1 hcs hTs htok hwf htp
   replace htm:=kH htm;replace hcwf:=kH hcwf;replace htn:=kH htn;replace htc8:=kH htc8;replace htc9:=kH htc9;replace hpr:=kH hpr;replace hskip:=kH hskip;replace hhit1:=kH hhit1;replace hh2:=kH hh2;replace cK:=kH cK;replace hcn:=kH hcn;replace htnm:=kH htnm;replace hsT:=kH hsT
   go_upto_region 10 with fail
   obtain⟨w2,hW2⟩ : ∃W,W=wr.alloc (.cells #[.string tnm,.int .i64 (pr:Int),.slice ca cn cc] 101):=⟨_,rfl⟩
   rw[<- hW2]
   have hb2:Below wr.heap.size wr w2:=by rw[hW2];go_grown
   have X2:RowAt w2 wr.heap.size 0 [.string tnm,.int .i64 (pr:Int),.slice ca cn cc]:=by rw[hW2];exact RowAt.box wr #[_,_,_] _
   have R2:=R.below hb2
   have R2W:=RW.below hb2
   have E2:=E.below hb2
   have E2W:=EW.below hb2
   have hsE2:=World.block_lt_of_cell? _ _ (E 0 _ rfl)
   dsimp only at hsE2
   have hw2:=hw.trans (hb2.mono hz)
   have hb2z:=hb2.size
   obtain⟨xb,hxb⟩ : ∃q,q=wr.heap.size:=⟨_,rfl⟩
   rw[<- hxb]at X2 hsE2 ⊢
   replace hxb:=kH hxb;replace hb2:=kH hb2
   clear hW2 e_0 e_1 e_2 hbb1 R RW E EW
   obtain⟨x2_0,x2_1,x2_2⟩:=X2.box3;have hsX2:=bLt x2_0
   go_wp2_with fail
   go_loopw [57] (fun kk wq=>∃k:Nat,k<=cn/\kk=.int .i64 k/\Hid (∀c∈t.cons.take k,c.name≠name)/\Below w.heap.size w wq/\Hid (Below wr.heap.size wr wq)/\RowAt wq xb 0 [.string tnm,.int .i64 (pr:Int),.slice ca cn cc]/\RowAt wq w.heap.size 0 [.slice none 0 0]/\Wr wq w.heap.size 0 1/\RowAt wq (w.heap.size+1) 0 [.slice none 0 0]/\Wr wq (w.heap.size+1) 0 1) (fun kk _=>cn-(intOf kk).toNat)
   case atStart=>exact⟨0,by omega,rfl,kH (fun c h=>by simp at h),hw2,hb2,X2,R2,R2W,E2,E2W⟩
   case round=>
    clear hw2 hb2 R2 R2W E2 E2W x2_0 x2_1 x2_2 hsX2 X2 hb2z hw hz
    obtain⟨k,hk,rfl,hfk,hw,hbo,X,R,RW,E,EW⟩:=hrel
    have hz:=hw.size
    by_cases hlt3:k<cn
    ·obtain⟨b3,o3,c,r3,_,rfl,P3,⟨u0,rfl,hcw,hga⟩,hr3⟩:=(cK.out).get hcn.out hlt3
     replace hr3:=hr3.below (hpw.out wr (hw.mono (Nat.le_of_lt hlt)))
     obtain⟨ga,gc,rfl⟩:=hga.form
     have hcm:=List.mem_of_getElem? P3.out
     obtain⟨hc1,hc2⟩:=htc9.out c hcm
     have htk:t.cons=t.cons.take k++c :: t.cons.drop (k+1):=by
      obtain⟨h1,rfl⟩:=List.getElem?_eq_some_iff.1 P3.out
      rw[<- List.drop_eq_getElem_cons h1,List.take_append_drop]
     have hnext:c.name≠name->∀d∈t.cons.take (k+1),d.name≠name:=fun h d hd=>by
      rw[List.take_add_one,P3.out,Option.toList_some,List.mem_append]at hd
      rcases hd with hd|hd
      ·exact hfk.out d hd
      ·simp only[List.mem_singleton]at hd;subst hd;exact h
     have hyes:c.name=name->_:=fun h=>hh2.out c (hhit1.out _ _ c htk hfk.out h)
     obtain⟨gn,hgn⟩ : ∃q,q=c.arg.items.length:=⟨_,rfl⟩
     obtain⟨cnm,hcnm⟩ : ∃q,q=c.name:=⟨_,rfl⟩
     obtain⟨chas,hch⟩ : ∃q,q=c.has:=⟨_,rfl⟩
     rw[<- hcnm]at hnext hyes
     rw[<- hgn,<- hcnm,<- hch]at hr3
     rw[<- hch]at hyes
     have hGK:∀W,Below b w W->Sl GTyItem.R 3 0 W (.slice ga gn gc) c.arg.items:=fun W hW=>by rw[hgn];exact hga.below GTyItem.good (hpw.out W hW)
     have hal:c.arg.items.length<=200:=by
      cases hh:c.has
      ·rw[conHas_no hc1 hh];simp
      ·obtain⟨h1,-,h2⟩:=conHas_yes hc1 hh
       rw[h1,flatY_len];exact h2
     have hpl:(putL (newVs s.nx pr) c.arg.items).length<=1000000:=by
      cases hh:c.has
      ·rw[conHas_no hc1 hh];simp[putL_nil]
      ·obtain⟨h1,h3,h2⟩:=conHas_yes hc1 hh
       rw[h1,putL_flat _ _ h3,flatY_len]
       have:=sz_sub (σ:=newVs s.nx pr) (fun p hp=>by rw[(newVs_mem hp).2.2];simp[szY]) (treeY c.arg.items)
       omega
     have e_0:wr.cell? ⟨b3,o3+k*3,none⟩=some (.string cnm):=by simpa using hr3 0 _ rfl
     have e_1:wr.cell? ⟨b3,o3+k*3+1,none⟩=some (.bool chas):=hr3 1 _ rfl
     have e_2:wr.cell? ⟨b3,o3+k*3+2,none⟩=some (.slice ga gn gc):=hr3 2 _ rfl
     have hbb3:=World.block_lt_of_cell? _ _ e_0;dsimp only at hbb3
     clear hr3 hga htk hcw
     replace hcm:=kH hcm;replace hc1:=kH hc1;replace hc2:=kH hc2;replace hnext:=kH hnext;replace hyes:=kH hyes;replace hgn:=kH hgn;replace hcnm:=kH hcnm;replace hch:=kH hch;replace hGK:=kH hGK;replace hal:=kH hal;replace hpl:=kH hpl
     go_upto_region 13 with fail
     obtain⟨w4,hW4⟩ : ∃W,W=wr.alloc (.cells #[.string cnm,.bool chas,.slice ga gn gc] 105):=⟨_,rfl⟩
     rw[<- hW4]
     have hb4:Below wr.heap.size wr w4:=by rw[hW4];go_grown
     have C4:RowAt w4 wr.heap.size 0 [.string cnm,.bool chas,.slice ga gn gc]:=by rw[hW4];exact RowAt.box wr #[_,_,_] _
     have X4:=X.below hb4
     have R4:=R.below hb4
     have R4W:=RW.below hb4
     have E4:=E.below hb4
     have E4W:=EW.below hb4
     have hw4:=hw.trans (hb4.mono hz)
     have hbo4:=hbo.out.trans (hb4.mono hbo.out.size)
     have hsX4':=World.block_lt_of_cell? _ _ (X 0 _ rfl)
     dsimp only at hsX4'
     have hz4:=hb4.size
     obtain⟨cb,hcb⟩ : ∃q,q=wr.heap.size:=⟨_,rfl⟩
     rw[<- hcb]at C4 hsX4' ⊢
     replace hcb:=kH hcb;replace hb4:=kH hb4;replace hbo4:=kH hbo4
     clear hW4 e_0 e_1 e_2 hbb3 X R RW E EW
     obtain⟨x4_0,x4_1,x4_2⟩:=X4.box3;have hsX4:=bLt x4_0;obtain⟨c4_0,c4_1,c4_2⟩:=C4.box3;have hsC4:=bLt c4_0
     by_cases hnm:cnm=name
     ·have dn:(cnm.toList == name.toList)=true:=by rw[beq_iff_eq,toList_eq];exact hnm
      have dn2:(cnm.toList != name.toList)=false:=by rw[bne,dn];rfl
      have hy1:=hyes.out hnm
      rw[show((pr:Int)).toNat=pr from Int.toNat_natCast pr]at hy1
      have Sw4:=S.below hw4
      have F4:=IFr.of hw4 (Nat.le_of_lt hlt)
      replace hy1:=kH hy1;replace F4:=kH F4
      clear hyes hnext hskip hhit1 hmiss hh2 hnm hfk hfi tK hbo4 hw4 hw hbo cK hT htc9 hcwf htm hcm hTl hc1 hc2
      go_upto_region 16 with fail
      obtain⟨w5,hW5⟩ : ∃W,W=(w4.alloc (.cells #[] 33)).alloc (.cells #[] 119):=⟨_,rfl⟩
      rw[<- hW5]
      have hb5:Below w4.heap.size w4 w5:=by rw[hW5];go_grown
      have hz5:w5.heap.size=w4.heap.size+2:=by rw[hW5];simp
      have O5:TwoO w4.heap.size (b+1) w5 (.slice (some ⟨w4.heap.size,0,none⟩) 0 0) [] (argVs s.nx 0) (.slice (some ⟨w4.heap.size+1,0,none⟩) 0 0) [] (newVs s.nx 0):=by
       have h1:w5.heap[w4.heap.size]? = some (.cells #[] 33 (0,0)):=by rw[hW5,Below.heap_alloc _ _ _ (by simp)];exact heap_alloc_new' w4 _ _ rfl
       have h2:w5.heap[w4.heap.size+1]? = some (.cells #[] 119 (0,0)):=by rw[hW5];exact heap_alloc_new' _ _ _ (by simp)
       refine⟨ArO.nil ⟨own_empty_at h1 (Nat.le_refl _),fun x h=>(by cases h)⟩,SbO.nil ⟨own_empty_at h2 (by omega),fun x h=>(by cases h)⟩,fun g hg e=>?_,fun g _ p hp=>(by cases hp),fun g _ p hp=>(by cases hp)⟩
       simp[Value.ownBlock]at hg e
       omega
      have X5:=X4.below hb5
      have C5:=C4.below hb5
      have R5:=R4.below hb5
      have R5W:=R4W.below hb5
      have E5:=E4.below hb5
      have E5W:=E4W.below hb5
      have S5:=Sw4.below hb5
      have F5:=F4.out.grow hb5 (by omega)
      have hcbB:cb<w4.heap.size:=hsC4
      obtain⟨B,hB⟩ : ∃q,q=w4.heap.size:=⟨_,rfl⟩
      rw[<- hB]at O5 hz5 hcbB ⊢
      have hBz:B<=w5.heap.size:=by omega
      generalize (Value.slice (some ⟨B,0,none⟩) 0 0)=av0 at *
      generalize (Value.slice (some ⟨B+1,0,none⟩) 0 0)=sv0 at *
      replace O5:=kH O5;replace F5:=kH F5;replace hB:=kH hB
      have hxR:w.heap.size+1<xb:=hsE2
      clear hW5 hb5 x4_0 x4_1 x4_2 hsX4 X4 c4_0 c4_1 c4_2 hsC4 C4 R4 R4W E4 E4W Sw4 F4 hz5 hsE2 hb4
      obtain⟨iY,hi0,hz0,hz1,hz2⟩:=info_parts info_TyS;have IY:=kH hi0;have IY0:=kH hz0;have IY1:=kH hz1;have IY2:=kH hz2;clear hi0 hz0 hz1 hz2
      obtain⟨iZ,hi0,hz0,hz1,hz2⟩:=info_parts info_SubB;have IZ:=kH hi0;have IZ0:=kH hz0;have IZ1:=kH hz1;have IZ2:=kH hz2;clear hi0 hz0 hz1 hz2
      go_wp2_with fail
      go_loopw [14,15,16] (fun av sv ii wq=>∃ (j:Nat) (aps:List TySl) (sps:List SubV) (a0 s0:Value),a0=av/\s0=sv/\j<=pr/\ii=.int .i64 j/\Hid (TwoO B (b+1) wq a0 aps (argVs s.nx j) s0 sps (newVs s.nx j))/\SB b (.slice (some ⟨b1,o1,none⟩) tn tc) P1 wq ⟨s.sub,s.nx+j,s.cd,s.at_⟩ lv/\Hid (IFr b w wq)/\RowAt wq xb 0 [.string tnm,.int .i64 (pr:Int),.slice (some ⟨b3,o3,none⟩) cn cc]/\RowAt wq cb 0 [.string cnm,.bool chas,.slice ga gn gc]/\RowAt wq w.heap.size 0 [.slice none 0 0]/\Wr wq w.heap.size 0 1/\RowAt wq (w.heap.size+1) 0 [.slice none 0 0]/\Wr wq (w.heap.size+1) 0 1/\B<=wq.heap.size) (fun _ _ ii _=>pr-(intOf ii).toNat)
      case atStart=>exact⟨0,[],[],_,_,rfl,rfl,by omega,rfl,O5,S5,F5,X5,C5,R5,R5W,E5,E5W,hBz⟩
      case round=>
       clear O5 S5 F5 X5 C5 R5 R5W E5 E5W hBz
       obtain⟨j,aps,sps,av,sv,rfl,rfl,hj,rfl,O,SS,F,X,C,R,RW,E,EW,hBw⟩:=hrel
       obtain⟨x_0,x_1,x_2⟩:=X.box3;have hsX:=bLt x_0
       by_cases hlt4:j<pr
       ·have cN:=l06New_c SS (by dsimp only;omega)
        dsimp only[IS.new]at cN
        replace cN:=kH cN
        obtain⟨va,vc,rfl⟩:=O.out.a.own.form
        obtain⟨ua,uc,rfl⟩:=O.out.s.own.form
        go_upto_region 20 with(go_at_call 135;(with_reducible refine(cN.out).mono ?_);rintro e w6 ⟨v6,rfl,S6,T6,F6⟩;obtain⟨a6,c6,rfl⟩:=T6.form;have hl1:(flatY (TyT.v ((s.nx+j:Nat):Int))).length=1:=rfl;rw[hl1]at T6 ⊢;clear hl1)
        have hla:aps.length=j:=O.out.a.len.trans (argVs_len _ _)
        have hls:sps.length=j:=O.out.s.len.trans (newVs_len _ _)
        rw[hla,hls]at O ⊢
        have hzF:=F6.size
        have hT6:∀g,(Value.slice a6 1 c6).ownBlock=some g->wr.heap.size<=g/\g<w6.heap.size:=fun g hg=>sl_block T6 g hg
        obtain⟨w7,hW7⟩ : ∃W,W=w6.alloc (.cells #[.slice a6 1 c6] 33):=⟨_,rfl⟩
        rw[<- hW7]
        have hb7:Below w6.heap.size w6 w7:=by rw[hW7];go_grown
        have V7:RowAt w7 w6.heap.size 0 [.slice a6 1 c6]:=by rw[hW7];exact RowAt.box w6 #[_] _
        have hbw6:b<wr.heap.size:=SS.lt
        have O7:=(O.out.fr F6 (by omega)).below hb7
        have X7:=(F6.row X (by omega)).below hb7
        have C7:=(F6.row C (by omega)).below hb7
        have R7:=(F6.row R (by omega)).below hb7
        have R7W:=(RW.kept F6.kept (by omega)).below hb7
        have E7:=(F6.row E (by omega)).below hb7
        have E7W:=(EW.kept F6.kept (by omega)).below hb7
        have S7:=S6.below hb7
        have T7:=T6.below GTyItem.good hb7
        have FF7:=(F.out.trans F6).grow hb7 (by omega)
        have hz7:=hb7.size
        have hz7' : w7.heap.size=w6.heap.size+1:=by rw[hW7];simp
        have hownA:=O7.a.own.1
        rw[hla]at hownA
        have hbaA:=O7.a.own.base
        have hbaS:=O7.s.own.base
        have hww:=F.out.size
        have hoA:∀g,(Value.slice va j vc).ownBlock=some g->g<wr.heap.size:=fun g hg=>(O.out.a.own.base g hg).2
        have hoS:∀g,(Value.slice ua j uc).ownBlock=some g->g<wr.heap.size:=fun g hg=>(O.out.s.own.base g hg).2
        obtain⟨vb,hvb⟩ : ∃q,q=w6.heap.size:=⟨_,rfl⟩
        rw[<- hvb]at V7 hz7' ⊢
        replace hla:=kH hla;replace hls:=kH hls;replace hT6:=kH hT6;replace hownA:=kH hownA;replace hbaA:=kH hbaA;replace hbaS:=kH hbaS;replace O7:=kH O7;replace T7:=kH T7;replace FF7:=kH FF7;replace hvb:=kH hvb;replace hoA:=kH hoA;replace hoS:=kH hoS;replace hz7':=kH hz7'
        clear hW7 hb7 O X C R RW E EW S6 T6 F6 SS F x_0 x_1 x_2 hsX
        have v7_0:=V7.box1;have hsV7:=bLt v7_0
        go_upto_region 21 with((at_builtin;refine wpList_append_lies _ rfl _ _ _ rfl (B) 33 iY _ 1 24 Tryz.underlying114 IY.out IY0.out IY1.out IY2.out rfl (by omega) (.slice va j vc) (j) (rowsOf tsRow aps) rfl (own_below hownA.out (by go_grown)) ⟨w7.heap.size,0,none⟩ 1 1 [.slice a6 1 c6] rfl rfl (World.news_of_block (cs:=#[.slice a6 1 c6]) (t:=33) (fr:=(0,0)) (heap_alloc_new' _ _ _ (by simp))) (by intro u hu;simp at hu;repeat' first|(subst hu;rfl)|rcases hu with hu|hu) (by omega) (by unfold maxLen;omega) (by omega) (by simp;omega) _ rfl ?_;intro g2 cap2 w8 hown8 hgrow8 hat8 hlt8))
        have hbA:Below w7.heap.size w7 (w7.alloc (.cells #[.slice a6 1 c6] 33)):=by go_grown
        have hzA:(w7.alloc (.cells #[.slice a6 1 c6] 33)).heap.size=w7.heap.size+1:=by simp
        have hat8' : (Value.slice va j vc).ownBlock=some g2\/(w7.alloc (.cells #[.slice a6 1 c6] 33)).heap.size<=g2:=by rcases hat8 with h|h;exact .inl h;exact .inr (by omega)
        have O8:=O7.out.pushA (p:=⟨a6,1,c6⟩) (t:=.v ((s.nx+j:Nat):Int)) hla.out.symm hbA hown8 hgrow8 hat8' ((T7.out.mono GTyItem.good (by omega)).below GTyItem.good hbA) (fun g hg e=>by have h1:=hT6.out g e;have h2:=hoA.out g hg;omega) (fun g hg e=>by have h1:=hT6.out g e;have h2:=hoS.out g hg;omega)
        have k8:=kept_of hgrow8 (w:=w7) hbA
        have hgB:∀g,(Value.slice va j vc).ownBlock=some g->B<=g:=fun g hg=>(hbaA.out g hg).1
        have hn8:∀q,q<B->¬ some q=(Value.slice va j vc).ownBlock:=fun q hq e=>by have:=hgB q e.symm;omega
        have X8:=X7.kept k8 (hn8 _ (by omega))
        have C8:=C7.kept k8 (hn8 _ (by omega))
        have R8:=R7.kept k8 (hn8 _ (by omega))
        have R8W:=R7W.kept k8 (hn8 _ (by omega))
        have E8:=E7.kept k8 (hn8 _ (by omega))
        have E8W:=E7W.kept k8 (hn8 _ (by omega))
        have V8:=V7.kept k8 (fun e=>by have h1:=hoA.out vb e.symm;have h2:=hvb.out;omega)
        have FF8:IFr b w w8:=(FF7.out.grow hbA (by omega)).grown hgrow8 (by omega) (fun q hq=>by have:=hgB q hq;omega)
        have S8:SB b (.slice (some ⟨b1,o1,none⟩) tn tc) P1 w8 ⟨s.sub,s.nx+j+1,s.cd,s.at_⟩ lv:=S7.frS k8 (hn8 _ (by omega)) (fun q hq=>by have:=hgB q hq.symm;omega) hs0.out FF8
        have T8:Sl GTyItem.R 3 (b+1) w8 (.slice a6 1 c6) (flatY (.v ((s.nx+j:Nat):Int))):=kept_sl2 (T7.out.mono GTyItem.good (by omega)) k8 (fun g hg e=>by have h1:=hT6.out g hg;have h2:=hoA.out g e.symm;omega)
        have hz8:=hgrow8.size
        have hownS:=O8.s.own.1
        rw[hls.out]at hownS
        have hav8:∀g,(Value.slice (some ⟨g2,0,none⟩) (j+1) cap2).ownBlock=some g->g<wr.heap.size\/w7.heap.size<g:=fun g hg=>by
         obtain rfl:g2=g:=by simpa [Value.ownBlock] using hg
         rcases hat8 with h|h
         ·exact .inl (hoA.out g2 h)
         ·exact .inr (by omega)
        generalize hav:(Value.slice (some ⟨g2,0,none⟩) (j+1) cap2)=av8 at *
        replace O8:=kH O8;replace T8:=kH T8;replace FF8:=kH FF8;replace hownS:=kH hownS;replace hav8:=kH hav8
        have hz78:w7.heap.size<=w8.heap.size:=by omega
        clear hav hat8 hat8' hgrow8 hown8 hlt8 k8 hgB hn8 hbA hzA X7 C7 R7 R7W E7 E7W S7 v7_0 hsV7 V7 O7 hownA hbaA FF7 T7 hz8
        have v8_0:=V8.box1;have hsV8:=bLt v8_0
        go_upto_region 18 with((at_builtin;refine wpList_append_lies _ rfl _ _ _ rfl (B) 119 iZ _ 2 32 Tryz.underlying59 IZ.out IZ0.out IZ1.out IZ2.out rfl (by omega) (.slice ua j uc) (j) (rowsOf subRow sps) rfl (own_below hownS.out (by go_grown)) ⟨w8.heap.size,0,none⟩ 1 1 [.int .i64 (j:Int),.slice a6 1 c6] rfl rfl (World.news_of_block (cs:=#[.int .i64 (j:Int),.slice a6 1 c6]) (t:=119) (fr:=(0,0)) (heap_alloc_new' _ _ _ (by simp))) (by intro u hu;simp at hu;repeat' first|(subst hu;rfl)|rcases hu with hu|hu) (by omega) (by unfold maxLen;omega) (by omega) (by simp;omega) _ rfl ?_;intro g3 cap3 w9 hown9 hgrow9 hat9 hlt9))
        have hbA:Below w8.heap.size w8 (w8.alloc (.cells #[.int .i64 (j:Int),.slice a6 1 c6] 119)):=by go_grown
        have hzA:(w8.alloc (.cells #[.int .i64 (j:Int),.slice a6 1 c6] 119)).heap.size=w8.heap.size+1:=by simp
        have hat9' : (Value.slice ua j uc).ownBlock=some g3\/(w8.alloc (.cells #[.int .i64 (j:Int),.slice a6 1 c6] 119)).heap.size<=g3:=by rcases hat9 with h|h;exact .inl h;exact .inr (by omega)
        have O9:=O8.out.pushS (p:=⟨(j:Int),a6,1,c6⟩) (q:=((j:Int),.v ((s.nx+j:Nat):Int))) hls.out.symm hbA hown9 hgrow9 hat9' rfl ⟨by dsimp only;omega,by dsimp only;omega⟩ (T8.out.below GTyItem.good hbA) (fun g hg e=>by have h1:=hT6.out g e;have h2:=hoS.out g hg;omega) (fun g hg e=>by have h1:=hT6.out g e;have h2:=hav8.out g hg;have h3:=hvb.out;have h4:=hz7'.out;omega)
        have k9:=kept_of hgrow9 (w:=w8) hbA
        have hgB:∀g,(Value.slice ua j uc).ownBlock=some g->B<=g:=fun g hg=>(hbaS.out g hg).1
        have hn9:∀q,q<B->¬ some q=(Value.slice ua j uc).ownBlock:=fun q hq e=>by have:=hgB q e.symm;omega
        have X9:=X8.kept k9 (hn9 _ (by omega))
        have C9:=C8.kept k9 (hn9 _ (by omega))
        have R9:=R8.kept k9 (hn9 _ (by omega))
        have R9W:=R8W.kept k9 (hn9 _ (by omega))
        have E9:=E8.kept k9 (hn9 _ (by omega))
        have E9W:=E8W.kept k9 (hn9 _ (by omega))
        have FF9:IFr b w w9:=(FF8.out.grow hbA (by omega)).grown hgrow9 (by omega) (fun q hq=>by have:=hgB q hq;omega)
        have S9:SB b (.slice (some ⟨b1,o1,none⟩) tn tc) P1 w9 ⟨s.sub,s.nx+(j+1),s.cd,s.at_⟩ lv:=S8.frS k9 (hn9 _ (by omega)) (fun q hq=>by have:=hgB q hq.symm;omega) hs0.out FF9
        have hz9:=hgrow9.size
        have hB9:B<=w9.heap.size:=by omega
        generalize (Value.slice (some ⟨g3,0,none⟩) (j+1) cap3)=sv9 at *
        replace O9:=kH O9;replace FF9:=kH FF9
        clear hat9 hat9' hgrow9 hown9 hlt9 k9 hgB hn9 hbA hzA X8 C8 R8 R8W E8 E8W S8 v8_0 hsV8 V8 O8 hownS hbaS FF8 T8 hz9 hav8
        go_wp2_with fail
        go_roundw
        case rel=>exact⟨j+1,_,_,_,_,rfl,rfl,by omega,by go_num,O9,S9,FF9,X9,C9,R9,R9W,E9,E9W,hB9⟩
        case measure=>simp[intOf];omega
       ·obtain rfl:j=pr:=by omega
        have hzw:=F.out.size
        have hlo:b+1<=B:=by omega
        have hNl:=ownY_named tnm s.nx j hpr2
        have cL:∀W,Below wr.heap.size wr W->Calls Tryz.prog 53 #[.string tnm,av] W (fun e w'=>∃v,e=.returned (.agg #[v])/\OwnT wr.heap.size w' v (flatY (ownY tnm s.nx j))/\∀V,Below V.heap.size V W->Below V.heap.size V w'):=fun W hW=>by
         have hl:(tysOf (argVs s.nx j)).length=j:=by unfold tysOf;rw[List.length_map,argVs_len]
         have:=l03Named_c tnm hsT.out (tysOf (argVs s.nx j)) (by omega) (by rw[hl,hNl,flatY_len];have:=(ownY_in (s:=s) hpr2 (name_full htn.out) (Nat.le_refl _)).2.2;omega) av W (((O.out.a.below hW).sl hlo).mono GTy.good (Nat.zero_le _))
         rw[hl,hNl]at this
         exact this.mono (by rintro e w' ⟨v,rfl,h2,h3⟩;exact⟨v,rfl,h2.mono hW.size,fun V hV=>hV.trans (h3.mono hV.size)⟩)
        have hGW:∀W,Below wr.heap.size wr W->Sl GTyItem.R 3 0 W (.slice ga gn gc) c.arg.items:=fun W hW=>hGK.out W (F.out.below.trans (hW.mono (by omega)))
        replace hGW:=kH hGW
        have cP:∀W,Below wr.heap.size wr W->Calls Tryz.prog 24 #[.agg #[.slice ga gn gc],sv] W (fun e w'=>∃v,e=.returned (.agg #[v])/\OwnT wr.heap.size w' v (putL (newVs s.nx j) c.arg.items)/\∀V,Below V.heap.size V W->Below V.heap.size V w'):=fun W hW=>
         (l05Apply_c c.arg.items (newVs s.nx j) (newVs_keys _ _) (by have:=hpl.out;omega) _ _ W (hGW.out W hW) (((O.out.s.below hW).sl hlo).mono SubR.good (Nat.zero_le _))).mono (by rintro e w' ⟨v,rfl,h2,h3⟩;exact⟨v,rfl,h2.mono hW.size,fun V hV=>hV.trans (h3.mono hV.size)⟩)
        obtain⟨va,vc,hav⟩:=O.out.a.own.form
        obtain⟨ua,uc,hsv⟩:=O.out.s.own.form
        clear hNl
        replace cL:=kH cL;replace cP:=kH cP;replace hav:=kH hav;replace hsv:=kH hsv
        obtain⟨c_0,c_1,c_2⟩:=C.box3;have hsC:=bLt c_0;have rf_0:=RW.frz 0 (by omega);have r_0:=R.box1;have hsR:=bLt r_0;have ef_0:=EW.frz 0 (by omega);have e_0:=E.box1;have hsE:=bLt e_0
        have hX1:xb≠w.heap.size:=by omega
        have hX2:xb≠w.heap.size+1:=by omega
        have hC1:cb≠w.heap.size:=by omega
        have hC2:cb≠w.heap.size+1:=by omega
        replace hX1:=kH hX1;replace hX2:=kH hX2;replace hC1:=kH hC1;replace hC2:=kH hC2
        go_upto_region 22 with fail
        go_region_held3 (fun w'=>w'.cell? ⟨xb,0,none⟩=some (.string tnm)/\w'.cell? ⟨cb,1,none⟩=some (.bool chas)/\w'.cell? ⟨cb,2,none⟩=some (.slice ga gn gc))
         (first|exact⟨x_0,c_1,c_2⟩|exact⟨u_0,u_1,u_2⟩|exact⟨(XL.set_other hX1.out _).box3.1,(CL.set_other hC1.out _).box3.2.1,(CL.set_other hC1.out _).box3.2.2⟩|exact⟨((XL.set_other hX1.out _).set_other hX2.out _).box3.1,((CL.set_other hC1.out _).set_other hC2.out _).box3.2.1,((CL.set_other hC1.out _).set_other hC2.out _).box3.2.2⟩|go_keep)
         (first
          |(go_at_call 53;first
           |((with_reducible refine(cL.out _ ((Below.refl _ wr).drew)).mono ?_);rintro e wN ⟨vN,rfl,TN,hN⟩;have hN0:=hN wr ((Below.refl _ _).drew);obtain⟨aN,cN,rfl⟩:=TN.form;obtain⟨nN,hnN⟩ : ∃q,q=(flatY (ownY tnm s.nx j)).length:=⟨_,rfl⟩;rw[<- hnN]at TN ⊢;have XL:=X.below hN0;have CL:=C.below hN0;have RL:=R.below hN0;have RLW:=RW.below hN0;have EL:=E.below hN0;have ELW:=EW.below hN0;have u_0:=XL.box3.1;have u_1:=CL.box3.2.1;have u_2:=CL.box3.2.2;have rl_0:=RL.box1;have rlf:=RLW.frz 0 (by omega);have el_0:=EL.box1;have elf:=ELW.frz 0 (by omega);replace hN0:=kH hN0;replace TN:=kH TN;replace hN:=kH hN;replace hnN:=kH hnN)
           |((with_reducible refine(cL.out _ hA0.out).mono ?_);rintro e wN ⟨vN,rfl,TN,hN⟩;have hN0:=hN wr hA0.out;replace TA:=kH (TA.out.below (hN wA (Below.refl _ _)));obtain⟨aN,cN,rfl⟩:=TN.form;obtain⟨nN,hnN⟩ : ∃q,q=(flatY (ownY tnm s.nx j)).length:=⟨_,rfl⟩;rw[<- hnN]at TN ⊢;have XL:=X.below hN0;have CL:=C.below hN0;have RL:=R.below hN0;have RLW:=RW.below hN0;have EL:=E.below hN0;have ELW:=EW.below hN0;have u_0:=XL.box3.1;have u_1:=CL.box3.2.1;have u_2:=CL.box3.2.2;have rl_0:=RL.box1;have rlf:=RLW.frz 0 (by omega);have el_0:=EL.box1;have elf:=ELW.frz 0 (by omega);replace hN0:=kH hN0;replace TN:=kH TN;replace hN:=kH hN;replace hnN:=kH hnN))
          |(go_at_call 24;first
           |((with_reducible refine(cP.out _ ((Below.refl _ wr).drew)).mono ?_);rintro e wA ⟨vA,rfl,TA,hA⟩;have hA0:=hA wr ((Below.refl _ _).drew);obtain⟨aA,cA,rfl⟩:=TA.form;obtain⟨nA,hnA⟩ : ∃q,q=(putL (newVs s.nx j) c.arg.items).length:=⟨_,rfl⟩;rw[<- hnA]at TA ⊢;have XL:=X.below hA0;have CL:=C.below hA0;have RL:=R.below hA0;have RLW:=RW.below hA0;have EL:=E.below hA0;have ELW:=EW.below hA0;have u_0:=XL.box3.1;have u_1:=CL.box3.2.1;have u_2:=CL.box3.2.2;have rl_0:=RL.box1;have rlf:=RLW.frz 0 (by omega);have el_0:=EL.box1;have elf:=ELW.frz 0 (by omega);replace hA0:=kH hA0;replace TA:=kH TA;replace hA:=kH hA;replace hnA:=kH hnA)
           |((with_reducible refine(cP.out _ hN0.out).mono ?_);rintro e wA ⟨vA,rfl,TA,hA⟩;have hA0:=hA wr hN0.out;replace TN:=kH (TN.out.below (hA wN (Below.refl _ _)));obtain⟨aA,cA,rfl⟩:=TA.form;obtain⟨nA,hnA⟩ : ∃q,q=(putL (newVs s.nx j) c.arg.items).length:=⟨_,rfl⟩;rw[<- hnA]at TA ⊢;have XL:=X.below hA0;have CL:=C.below hA0;have RL:=R.below hA0;have RLW:=RW.below hA0;have EL:=E.below hA0;have ELW:=EW.below hA0;have u_0:=XL.box3.1;have u_1:=CL.box3.2.1;have u_2:=CL.box3.2.2;have rl_0:=RL.box1;have rlf:=RLW.frz 0 (by omega);have el_0:=EL.box1;have elf:=ELW.frz 0 (by omega);replace hA0:=kH hA0;replace TA:=kH TA;replace hA:=kH hA;replace hnA:=kH hnA)))
        all_goals go_wp2_with fail
        all_goals first
         |(obtain⟨w9,hW9⟩ : ∃X,X=(wA.setCell ⟨w.heap.size,0,none⟩ (.slice aN nN cN)).setCell ⟨w.heap.size+1,0,none⟩ (.slice aA nA cA):=⟨_,rfl⟩;rw[<- hW9];obtain⟨F9,S9,R9,E9,K9⟩:=con_fin (s:=s) hlt (Nat.le_refl _) (show w.heap.size<=w.heap.size+1 by omega) (by omega) (F.out.grow hA0.out (by omega)) (SS.below hA0.out) rfl hs0.out RL EL _ _ w9 hW9;refine bodyPost_ret (ret_con (a:=4) (c:=5) (i:=6) (j:=7) Tryz.results94 rfl rfl rfl rfl R9 E9) rfl ?_;exact hy1.out _ _ _ S9 F9 ⟨_,_,_,rfl⟩ ⟨_,_,_,rfl⟩ (by rw[<- htnm.out];exact kept_sl TN.out K9 (fun q hq e=>by rcases e with e|e<;>omega) (by omega)) (kept_sl TA.out K9 (fun q hq e=>by rcases e with e|e<;>omega) (by omega)))
         |(obtain⟨w9,hW9⟩ : ∃X,X=(wN.setCell ⟨w.heap.size,0,none⟩ (.slice aN nN cN)).setCell ⟨w.heap.size+1,0,none⟩ (.slice aA nA cA):=⟨_,rfl⟩;rw[<- hW9];obtain⟨F9,S9,R9,E9,K9⟩:=con_fin (s:=s) hlt (Nat.le_refl _) (show w.heap.size<=w.heap.size+1 by omega) (by omega) (F.out.grow hN0.out (by omega)) (SS.below hN0.out) rfl hs0.out RL EL _ _ w9 hW9;refine bodyPost_ret (ret_con (a:=4) (c:=5) (i:=6) (j:=7) Tryz.results94 rfl rfl rfl rfl R9 E9) rfl ?_;exact hy1.out _ _ _ S9 F9 ⟨_,_,_,rfl⟩ ⟨_,_,_,rfl⟩ (by rw[<- htnm.out];exact kept_sl TN.out K9 (fun q hq e=>by rcases e with e|e<;>omega) (by omega)) (kept_sl TA.out K9 (fun q hq e=>by rcases e with e|e<;>omega) (by omega)))
     ·have dn:(cnm.toList == name.toList)=false:=by rw[Bool.eq_false_iff];intro h;rw[beq_iff_eq,toList_eq]at h;exact hnm h
      have dn2:(cnm.toList != name.toList)=true:=by rw[bne,dn];rfl
      have hnx:=hnext.out hnm
      replace hnx:=kH hnx
      clear hnext hyes hnm
      go_wp2_with fail
      go_roundw
      case rel=>exact⟨k+1,by omega,by go_num,hnx,hw4,hbo4,X4,R4,R4W,E4,E4W⟩
      case measure=>simp[intOf];omega
    ·obtain rfl:k=cn:=by omega
     have hall:∀c∈t.cons,c.name≠name:=by have:=hfk.out;rwa [List.take_of_length_le (by have:=hcn.out;omega)]at this
     have hs:=hskip.out hall
     replace hs:=kH hs
     clear hall hfk
     go_wp2_with fail
     go_roundw
     case rel=>exact⟨i+1,by omega,by go_num,hs,hw,R,RW,E,EW⟩
     case measure=>simp[intOf];omega
  ·obtain rfl:i=tn:=by omega
   have hf:=hfi.out
   rw[List.take_of_length_le (by have:=hTl.out;omega)]at hf
   have hm:=hmiss.out hf
   have F:=IFr.of hw (Nat.le_of_lt hlt)
   have Sw:=S.below hw
   replace hm:=kH hm
   have rf_0:=RW.frz 0 (by omega);have r_0:=R.box1;have hsR:=bLt r_0;have ef_0:=EW.frz 0 (by omega);have e_0:=E.box1;have hsE:=bLt e_0
   clear hw
   go_wp2_with fail
   obtain⟨w2,hW2⟩ : ∃W,W=(wr.setCell ⟨w.heap.size,0,none⟩ (.slice none 0 0)).setCell ⟨w.heap.size+1,0,none⟩ (.slice none 0 0):=⟨_,rfl⟩
   rw[<- hW2]
   obtain⟨F2,S2,R2,E2,K2⟩:=con_fin (s:=s) hlt (Nat.le_refl _) (by omega) (by omega) F Sw rfl hs0.out R E _ _ w2 hW2
   refine bodyPost_ret (ret_con (a:=4) (c:=5) (i:=6) (j:=7) Tryz.results94 rfl rfl rfl rfl R2 E2) rfl ?_
   exact hm.out _ S2 F2
/-! ### Plain -/
structure ConT where
 own:TyT
 arg:TyT
 has:Bool
 many:Nat
/-- A constructor with its type's own variables. -/
noncomputable def conT (T:List GType) (name:ByteArray):Option ConT:=
 if name=nmTrue\/name=nmFalse then some ⟨.c0 nmBool,.c0 nmInt,false,0⟩
 else if name=nmNil\/name=nmCons then some ⟨.c1 nmList (.v 0),.c2 nmStar (.v 0) (.c1 nmList (.v 0)),decide (name=nmCons),1⟩
 else match findC name T with
  |some (t,c)=>some ⟨ownY t.name 0 t.params.toNat,treeY c.arg.items,c.has,t.params.toNat⟩
  |none=>none
def ConT.at_ (c:ConT) (n:Nat):ConI:=⟨subY (newVs n c.many) c.own,subY (newVs n c.many) c.arg,c.has,c.many⟩
theorem own_sub (n:Nat) (name:ByteArray):∀k,k<=2->subY (newVs n k) (ownY name 0 k)=ownY name n k
 |0,_=>rfl
 |1,_=>by
  have h:=newVs_get (n:=n) (k:=1) (i:=0) (by omega) (by omega)
  simp only[ownY,subY]
  rw[show((0:Nat):Int)=0 by rfl,h];simp
 |2,_=>by
  have h:=newVs_get (n:=n) (k:=2) (i:=0) (by omega) (by omega)
  have h1:=newVs_get (n:=n) (k:=2) (i:=1) (by omega) (by omega)
  simp only[ownY,subY]
  rw[show((0:Nat):Int)=0 by rfl,show((0+1:Nat):Int)=1 by rfl,h,h1];simp
 |k+3,h=>by omega
theorem conI_conT {T:List GType} (hT:TysOk T) (name:ByteArray) (n:Nat):conI T name n=(conT T name).map (·.at_ n):=by
 unfold conI conT
 split
 ·rfl
 ·split
  ·have h:=newVs_get (n:=n) (k:=1) (i:=0) (by omega) (by omega)
   simp only[Option.map_some,ConT.at_,subY,h,Int.add_zero,Option.getD_some]
  ·cases hf:findC name T with
   |none=>rfl
   |some p=>
    obtain⟨t,c⟩:=p
    obtain⟨m1,m2⟩:=findC_mem hf
    obtain⟨-,h2,-,-⟩:=typeOk_parts (hT t m1).1
    dsimp only
    simp only[Option.map_some,ConT.at_]
    rw[own_sub n t.name _ (by omega)]
/-- What stands in memory for a constructor's argument. -/
noncomputable def ConT.argL (c:ConT):List GTyItem:=if c.has=true then flatY c.arg else []
noncomputable def cmany:Option ConT->Nat
 |some c=>c.many
 |none=>0
def Stay (wp w w' : World) (v:Value) (l:List GTyItem):Prop:=Sl GTyItem.R 3 w.heap.size w' v l\/∀W,Below wp.heap.size wp W->Sl GTyItem.R 3 0 W v l
def CoPost (wp:World) (c:Option ConT) (w:World) (e:Ending) (w' : World):Prop:=
 ∃ov av,e=.returned (.tuple #[ov,av,.int .i64 (cmany c:Nat),.bool c.isSome])/\(∀d,c=some d->Sl GTyItem.R 3 w.heap.size w' ov (flatY d.own)/\Stay wp w w' av d.argL/\∃a n c,av=.slice a n c)/\Below w.heap.size w w'
theorem conOfA_c (wp:World) (T:List GType) (tv:Value) (w:World) (name:ByteArray) (hA:name=nmTrue\/name=nmFalse) :
  Calls Tryz.prog 119 #[tv,.string name] w (CoPost wp (conT T name) w):=by
 have hc:conT T name=some ⟨.c0 nmBool,.c0 nmInt,false,0⟩:=by unfold conT;rw[if_pos hA]
 have hpost:∀W v1,Sl GTyItem.R 3 w.heap.size W v1 (flatY (.c0 nmBool))->Below w.heap.size w W->CoPost wp (conT T name) w (.returned (.tuple #[v1,.slice none 0 0,.int .i64 0,.bool true])) W:=fun W v1 h1 h2=>by
  rw[hc]
  refine⟨v1,_,rfl,fun d hd=>?_,h2⟩
  obtain rfl:=Option.some.inj hd
  exact⟨h1,.inl Sl.nil,_,_,_,rfl⟩
 generalize CoPost wp (conT T name) w=Q at *
 have c1:=str_lit name [116,114,117,101]
 have c2:=str_lit name [102,97,108,115,101]
 have cN:=fun W=>single_c nmBool (strok (by decide)) W
 unfold ItPost at cN
 replace hpost:=kH hpost;replace cN:=kH cN
 have hd:(decide (name=(⟨[116,114,117,101].toArray⟩ : ByteArray))=true/\decide (name=(⟨[102,97,108,115,101].toArray⟩ : ByteArray))=false)\/(decide (name=(⟨[116,114,117,101].toArray⟩ : ByteArray))=false/\decide (name=(⟨[102,97,108,115,101].toArray⟩ : ByteArray))=true):=by
  rcases hA with rfl|rfl
  ·exact .inl ⟨by decide,by decide⟩
  ·exact .inr ⟨by decide,by decide⟩
 clear hA hc
 rcases hd with⟨d1,d2⟩|⟨d1,d2⟩<;>rw[d1]at c1<;>rw[d2]at c2<;>clear d1 d2
 all_goals
  go_enter Tryz.func119,Tryz.ntmps119
  go_upto_region 2 with fail
  obtain⟨w0,hW0⟩ : ∃W,W=w.alloc (.cells #[.int .i64 0,.string nmList,.int .i64 1,.int .i64 0,.string ⟨#[]⟩,.int .i64 0] 107):=⟨_,rfl⟩
  rw[<- hW0]
  have hw0:Below w.heap.size w w0:=by rw[hW0];go_grown
  clear hW0
  go_wp2_with (go_at_call 74;(with_reducible refine(cN.out _).mono ?_);rintro e w1 ⟨v1,rfl,T1,hb1⟩)
  go_returns
  exact hpost.out _ _ ((T1.sl flatTyItem).mono GTyItem.good hw0.size) (hw0.trans (hb1.mono hw0.size))
theorem listrow_sl {w:World} {g lo:Nat} (hlo:lo<=g) (h:RowAt w g 0 [.int .i64 0,.string nmList,.int .i64 1,.int .i64 0,.string ⟨#[]⟩,.int .i64 0]):Sl GTyItem.R 3 lo w (.slice (some ⟨g,0,none⟩) 2 2) (flatY (.c1 nmList (.v 0))):=by
 refine⟨_,2,rfl,Nat.le_refl _,by decide,fun _=>⟨g,0,hlo,rfl,fun i x hx=>?_⟩⟩
 match i,hx with
 |0,hx=>obtain rfl:=Option.some.inj hx;exact⟨_,⟨rfl,⟨by decide,by decide⟩,strok (by decide),⟨by decide,by decide⟩⟩,fun j c hc=>by match j,hc with
   |0,hc=>exact h 0 c hc
   |1,hc=>exact h 1 c hc
   |2,hc=>exact h 2 c hc
   |j+3,hc=>simp[tyRow]at hc⟩
 |1,hx=>obtain rfl:=Option.some.inj hx;exact⟨_,⟨rfl,⟨by decide,by decide⟩,strok (by decide),⟨by decide,by decide⟩⟩,fun j c hc=>by match j,hc with
   |0,hc=>exact h 3 c hc
   |1,hc=>exact h 4 c hc
   |2,hc=>exact h 5 c hc
   |j+3,hc=>simp[tyRow]at hc⟩
 |i+2,hx=>simp[flatY]at hx
theorem starrow_sl {w:World} {g lo:Nat} (hlo:lo<=g) (h:RowAt w g 0 [.int .i64 0,.string nmStar,.int .i64 2,.int .i64 0,.string ⟨#[]⟩,.int .i64 0]):Sl GTyItem.R 3 lo w (.slice (some ⟨g,0,none⟩) 2 2) [⟨0,nmStar,2⟩,⟨0,⟨#[]⟩,0⟩]:=by
 refine⟨_,2,rfl,Nat.le_refl _,by decide,fun _=>⟨g,0,hlo,rfl,fun i x hx=>?_⟩⟩
 match i,hx with
 |0,hx=>obtain rfl:=Option.some.inj hx;exact⟨_,⟨rfl,⟨by decide,by decide⟩,strok (by decide),⟨by decide,by decide⟩⟩,fun j c hc=>by match j,hc with
   |0,hc=>exact h 0 c hc
   |1,hc=>exact h 1 c hc
   |2,hc=>exact h 2 c hc
   |j+3,hc=>simp[tyRow]at hc⟩
 |1,hx=>obtain rfl:=Option.some.inj hx;exact⟨_,⟨rfl,⟨by decide,by decide⟩,strok (by decide),⟨by decide,by decide⟩⟩,fun j c hc=>by match j,hc with
   |0,hc=>exact h 3 c hc
   |1,hc=>exact h 4 c hc
   |2,hc=>exact h 5 c hc
   |j+3,hc=>simp[tyRow]at hc⟩
 |i+2,hx=>simp at hx
theorem pieces_sl {w:World} {g:Nat} {lo:Nat} {u1 u2:Value} {l1 l2:List GTyItem} (h:RowAt w g 0 [u1,u2]) (hg:lo<=g) (h1:Sl GTyItem.R 3 lo w u1 l1) (h2:Sl GTyItem.R 3 lo w u2 l2):Sl PieceR 1 lo w (.slice (some ⟨g,0,none⟩) 2 2) [l1,l2]:=by
 refine⟨_,2,rfl,Nat.le_refl _,by decide,fun _=>⟨g,0,hg,rfl,fun i x hx=>?_⟩⟩
 match i,hx with
 |0,hx=>obtain rfl:=Option.some.inj hx;exact⟨_,⟨u1,rfl,h1⟩,fun j c hc=>by match j,hc with
   |0,hc=>exact h 0 c hc
   |j+1,hc=>simp at hc⟩
 |1,hx=>obtain rfl:=Option.some.inj hx;exact⟨_,⟨u2,rfl,h2⟩,fun j c hc=>by match j,hc with
   |0,hc=>exact h 1 c hc
   |j+1,hc=>simp at hc⟩
 |i+2,hx=>simp at hx
theorem conOfB_c (wp:World) (T:List GType) (tv:Value) (w:World) (name:ByteArray) (hA : ¬ (name=nmTrue\/name=nmFalse)) (hB:name=nmNil\/name=nmCons) :
  Calls Tryz.prog 119 #[tv,.string name] w (CoPost wp (conT T name) w):=by
 have hc:conT T name=some ⟨.c1 nmList (.v 0),.c2 nmStar (.v 0) (.c1 nmList (.v 0)),decide (name=nmCons),1⟩:=by unfold conT;rw[if_neg hA,if_pos hB]
 have hpost:∀W v1 v2,Sl GTyItem.R 3 w.heap.size W v1 (flatY (.c1 nmList (.v 0)))->Sl GTyItem.R 3 w.heap.size W v2 (if name=nmCons then flatY (.c2 nmStar (.v 0) (.c1 nmList (.v 0))) else [])->Below w.heap.size w W->CoPost wp (conT T name) w (.returned (.tuple #[v1,v2,.int .i64 1,.bool true])) W:=fun W v1 v2 h1 h3 h2=>by
  rw[hc]
  refine⟨v1,v2,rfl,fun d hd=>?_,h2⟩
  obtain rfl:=Option.some.inj hd
  have h4:=h3.form
  refine⟨h1,.inl ?_,let ⟨a,c,h⟩:=h4;⟨a,_,c,h⟩⟩
  unfold ConT.argL
  simpa using h3
 generalize CoPost wp (conT T name) w=Q at *
 have c1:(name.toList == [116,114,117,101])=false:=(str_lit name [116,114,117,101]).trans (decide_eq_false (fun h=>hA (.inl h)))
 have c2:(name.toList == [102,97,108,115,101])=false:=(str_lit name [102,97,108,115,101]).trans (decide_eq_false (fun h=>hA (.inr h)))
 clear hc hA
 rcases hB with rfl|rfl
 ·have c3:(nmNil.toList == [91,93])=true:=(str_lit nmNil [91,93]).trans (decide_eq_true rfl)
  have hp:=hpost
  rw[if_neg (by decide)]at hp
  replace hp:=kH hp
  clear hpost
  generalize nmNil=name at *
  go_enter Tryz.func119,Tryz.ntmps119
  go_upto_region 2 with fail
  obtain⟨w0,hW0⟩ : ∃W,W=w.alloc (.cells #[.int .i64 0,.string nmList,.int .i64 1,.int .i64 0,.string ⟨#[]⟩,.int .i64 0] 107):=⟨_,rfl⟩
  rw[<- hW0]
  have hw0:Below w.heap.size w w0:=by rw[hW0];go_grown
  have R0:RowAt w0 w.heap.size 0 [.int .i64 0,.string nmList,.int .i64 1,.int .i64 0,.string ⟨#[]⟩,.int .i64 0]:=by rw[hW0];exact RowAt.box w #[.int .i64 0,.string nmList,.int .i64 1,.int .i64 0,.string ⟨#[]⟩,.int .i64 0] _
  have hsl:=listrow_sl (Nat.le_refl _) R0
  replace hsl:=kH hsl
  clear hW0 R0
  go_wp2_with fail
  go_returns
  exact hp.out _ _ _ hsl.out Sl.nil hw0
 ·have c3:(nmCons.toList == [91,93])=false:=(str_lit nmCons [91,93]).trans (decide_eq_false (by decide))
  have c4:(nmCons.toList == [58,58])=true:=(str_lit nmCons [58,58]).trans (decide_eq_true rfl)
  have hp:=hpost
  rw[if_pos rfl]at hp
  replace hp:=kH hp
  clear hpost
  generalize nmCons=name at *
  go_enter Tryz.func119,Tryz.ntmps119
  go_upto_region 2 with fail
  obtain⟨w0,hW0⟩ : ∃W,W=w.alloc (.cells #[.int .i64 0,.string nmList,.int .i64 1,.int .i64 0,.string ⟨#[]⟩,.int .i64 0] 107):=⟨_,rfl⟩
  rw[<- hW0]
  have hw0:Below w.heap.size w w0:=by rw[hW0];go_grown
  have R0:RowAt w0 w.heap.size 0 [.int .i64 0,.string nmList,.int .i64 1,.int .i64 0,.string ⟨#[]⟩,.int .i64 0]:=by rw[hW0];exact RowAt.box w #[.int .i64 0,.string nmList,.int .i64 1,.int .i64 0,.string ⟨#[]⟩,.int .i64 0] _
  have hsl:=listrow_sl (Nat.le_refl _) R0
  obtain⟨w3,hW3⟩ : ∃W,W=(w0.alloc (.cells #[.int .i64 0,.string nmStar,.int .i64 2,.int .i64 0,.string ⟨#[]⟩,.int .i64 0] 107)).alloc (.cells #[.slice (some ⟨w0.heap.size,0,none⟩) 2 2,.slice (some ⟨w.heap.size,0,none⟩) 2 2] 31):=⟨_,rfl⟩
  have hb3:Below w0.heap.size w0 w3:=by rw[hW3];go_grown
  have R3:RowAt w3 w0.heap.size 0 [.int .i64 0,.string nmStar,.int .i64 2,.int .i64 0,.string ⟨#[]⟩,.int .i64 0]:=by rw[hW3];exact(RowAt.box w0 #[.int .i64 0,.string nmStar,.int .i64 2,.int .i64 0,.string ⟨#[]⟩,.int .i64 0] 107).below (by go_grown)
  have P3:RowAt w3 (w0.heap.size+1) 0 [.slice (some ⟨w0.heap.size,0,none⟩) 2 2,.slice (some ⟨w.heap.size,0,none⟩) 2 2]:=by rw[hW3];have h:=RowAt.box (w0.alloc (.cells #[.int .i64 0,.string nmStar,.int .i64 2,.int .i64 0,.string ⟨#[]⟩,.int .i64 0] 107)) #[.slice (some ⟨w0.heap.size,0,none⟩) 2 2,.slice (some ⟨w.heap.size,0,none⟩) 2 2] 31;simp only[World.size_alloc]at h;exact h
  have cC:=concatT_c [[⟨0,nmStar,2⟩,⟨0,⟨#[]⟩,0⟩],flatY (.c1 nmList (.v 0))] (by simp) (by simp[flatY]) _ w.heap.size w3 (pieces_sl P3 (by have:=hw0.size;omega) (starrow_sl hw0.size R3) (hsl.below GTyItem.good hb3))
  unfold ItPost at cC
  rw[hW3]at cC
  replace cC:=kH cC;replace hsl:=kH hsl;replace hW3:=kH hW3
  clear hW0 R0 R3 P3
  go_wp2_with (go_at_call 75;(with_reducible refine(cC.out).mono ?_);rintro e w4 ⟨v4,rfl,T4,hb4⟩;rw[<- hW3.out]at T4 hb4)
  go_returns
  exact hp.out _ _ _ ((hsl.out.below GTyItem.good hb3).below GTyItem.good hb4) ((T4.sl flatTyItem).mono GTyItem.good (by have:=hw0.size;have:=hb3.size;omega)) (hw0.trans ((hb3.trans (hb4.mono hb3.size)).mono hw0.size))
end Go.Proofs.YtkikkfjmggobpaaGreat
