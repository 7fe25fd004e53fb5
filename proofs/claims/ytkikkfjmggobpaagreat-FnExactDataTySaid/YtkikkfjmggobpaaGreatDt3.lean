/- Parts of the proof, merged: TyOk, Un1, Kept, Own, Flat. -/
import Derived.Deep.AppendLies
import Derived.Deep.AppendSrc
import Derived.Deep.RegionLaw
import Derived.Test.YtkikkfjmggobpaaGreatDt2
namespace Go.Proofs.YtkikkfjmggobpaaGreat
open Go.RowKit
set_option maxRecDepth 100000
set_option maxHeartbeats 16000000
set_option linter.unusedVariables false
set_option linter.unusedSimpArgs false
attribute [local go_sem] Ext.cell
/-! Plain law. -/
def sRef:List UInt8:=[114,101,102]
def sArrow:List UInt8:=[45,62]
def sStar:List UInt8:=[42]
def tyNameOk (x:GTyItem):Bool:=if x.name.toList == sRef then x.arity == 1 else if (x.name.toList == sArrow||x.name.toList == sStar) then x.arity == 2 else nameOk x.name
def itemOk (x:GTyItem):Bool:=if x.name.toList.isEmpty then (decide (0<=x.var/\x.var<=9999)&&x.arity == 0) else (x.var == 0&&(decide (0<=x.arity/\x.arity<=2)&&tyNameOk x))
theorem itemOk_ar {x:GTyItem} (h:itemOk x=true):0<=x.arity/\x.arity<=2:=by
 unfold itemOk at h
 split at h<;>simp at h<;>omega
def tyGo:Nat->List GTyItem->Bool
 |n,[]=>n == 0
 |0,_ :: _=>false
 |n+1,x :: xs=>itemOk x&&tyGo (n+x.arity.toNat) xs
def tyOk (x:GTy):Bool:=decide ((x.items.length:Int)<=200)&&tyGo 1 x.items
def restT:Nat->List GTyItem->Option (List GTyItem)
 |0,xs=>some xs
 |_+1,[]=>none
 |n+1,x :: xs=>restT (n+x.arity.toNat) xs
theorem restT_add:∀ (xs:List GTyItem) (m n:Nat),restT (m+n) xs=(restT m xs).bind (restT n)
 |xs,0,n=>by rw[Nat.zero_add];cases xs<;>rfl
 |[],m+1,n=>by rw[show m+1+n=(m+n)+1 by omega];rfl
 |x :: xs,m+1,n=>by
  rw[show m+1+n=(m+n)+1 by omega]
  show restT (m+n+x.arity.toNat) xs=(restT (m+x.arity.toNat) xs).bind (restT n)
  rw[<- restT_add xs,show m+n+x.arity.toNat=m+x.arity.toNat+n by omega]
theorem restT_drop:∀ (xs:List GTyItem) (n:Nat) (r:List GTyItem),restT n xs=some r->∃k,k<=xs.length/\r=xs.drop k/\(0<n->0<k)
 |xs,0,r,h=>by
  have:restT 0 xs=some xs:=by cases xs<;>rfl
  rw[this]at h
  exact⟨0,Nat.zero_le _,(Option.some.inj h).symm,fun h=>absurd h (Nat.lt_irrefl 0)⟩
 |[],n+1,r,h=>by cases h
 |x :: xs,n+1,r,h=>by
  obtain⟨k,h1,h2,_⟩:=restT_drop xs _ r h
  exact⟨k+1,by simp;omega,h2,fun _=>Nat.succ_pos k⟩
theorem tyGo_rest:∀ (xs:List GTyItem) (n:Nat),tyGo n xs=((xs.all itemOk)&&decide (restT n xs=some []))
 |[],0=>rfl
 |[],n+1=>rfl
 |x :: xs,0=>by
  have:restT 0 (x :: xs)=some (x :: xs):=rfl
  rw[this]
  show false=_
  simp
 |x :: xs,n+1=>by
  show(itemOk x&&tyGo (n+x.arity.toNat) xs)=_
  rw[tyGo_rest xs,List.all_cons,Bool.and_assoc]
  rfl
def tendN (E:Nat->Int):Nat->Int->Int
 |0,z=>z
 |n+1,z=>if z<0 then z else tendN E n (E z.toNat)
def tend (l:List GTyItem):Nat->Nat->Int
 |0,_=>-1
 |f+1,i=>match l[i]? with
  |none=>-1
  |some x=>tendN (tend l f) x.arity.toNat (i+1)
def endT (l:List GTyItem) (n z:Nat):Int:=match restT n (l.drop z) with
 |none=>-1
 |some r=>(l.length:Int)-r.length
theorem tendN_neg (E:Nat->Int):∀ (n:Nat) (z:Int),z<0->tendN E n z=z
 |0,_,_=>rfl
 |n+1,z,h=>by unfold tendN;rw[if_pos h]
theorem endT_zero (l:List GTyItem) {z:Nat} (hz:z<=l.length):endT l 0 z=z:=by
 unfold endT
 have:restT 0 (l.drop z)=some (l.drop z):=by cases l.drop z<;>rfl
 rw[this]
 simp only[List.length_drop]
 omega
theorem endT_succ (l:List GTyItem) (n z:Nat) (hz:z<=l.length):(endT l 1 z = -1/\endT l (n+1) z = -1)\/∃z' : Nat,endT l 1 z=z'/\z<z'/\z'<=l.length/\endT l (n+1) z=endT l n z':=by
 unfold endT
 rw[Nat.add_comm n 1,restT_add]
 cases h:restT 1 (l.drop z) with
 |none=>exact .inl ⟨rfl,rfl⟩
 |some r=>
  obtain⟨k,h1,h2,h3⟩:=restT_drop _ _ _ h
  rw[List.length_drop]at h1
  rw[List.drop_drop]at h2
  refine .inr ⟨z+k,?_,by have:=h3 (by omega);omega,by omega,?_⟩
  ·subst h2;simp only[List.length_drop];omega
  ·subst h2;rfl
theorem tend_eq (l:List GTyItem):∀ (f i:Nat),l.length<i+f->tend l f i=endT l 1 i
 |0,i,h=>by
  unfold endT;rw[List.drop_of_length_le (by omega)];rfl
 |f+1,i,h=>by
  unfold tend
  cases hi:l[i]? with
  |none=>
   have:=List.getElem?_eq_none_iff.1 hi
   unfold endT;rw[List.drop_of_length_le (by omega)];rfl
  |some x=>
   obtain⟨hlt,hx⟩:=List.getElem?_eq_some_iff.1 hi
   have key:∀ (n z:Nat),i<z->z<=l.length->tendN (tend l f) n z=endT l n z:=by
    intro n
    induction n with
    |zero=>intro z _ hz;rw[endT_zero l hz];rfl
    |succ n ih=>
     intro z hz1 hz2
     unfold tendN
     rw[if_neg (by omega),Int.toNat_natCast,tend_eq l f z (by omega)]
     rcases endT_succ l n z hz2 with⟨h1,h2⟩|⟨z',h1,h2,h3,h4⟩
     ·rw[h1,h2];exact tendN_neg _ _ _ (by omega)
     ·rw[h1,h4];exact ih z' (by omega) h3
   show tendN (tend l f) x.arity.toNat ((i:Int)+1)=_
   rw[show(i:Int)+1=((i+1:Nat):Int) by omega,key _ _ (by omega) (by omega)]
   unfold endT
   rw[List.drop_eq_getElem_cons hlt,hx]
   show _=match restT (0+x.arity.toNat) (l.drop (i+1)) with
    |none=>-1
    |some r=>(l.length:Int)-r.length
   rw[Nat.zero_add]
theorem tend_range (l:List GTyItem) (f i:Nat) (h:l.length<i+f) (hi:i<=l.length):tend l f i = -1\/∃z:Nat,tend l f i=z/\i<z/\z<=l.length:=by
 rw[tend_eq l f i h]
 rcases endT_succ l 0 i hi with⟨h1,_⟩|⟨z,h1,h2,h3,_⟩
 ·exact .inl h1
 ·exact .inr ⟨z,h1,h2,h3⟩
theorem tyGo_tend (l:List GTyItem):tyGo 1 l=(l.all itemOk&&decide (tend l (l.length+1) 0=l.length)):=by
 rw[tyGo_rest,tend_eq l _ 0 (by omega)]
 congr 1
 unfold endT
 rw[List.drop_zero]
 cases h:restT 1 l with
 |none=>simp
 |some r=>
  cases r with
  |nil=>simp
  |cons a r=>simp;omega
theorem tyName_c (x:GTyItem) (hx:x.wf) (w:World) :
  Calls Tryz.prog 189 #[.agg #[.int .i64 x.var,.string x.name,.int .i64 x.arity]] w fun e w'=>e=.returned (.bool (tyNameOk x))/\Below w.heap.size w w':=by
 obtain⟨xv,xs,xa⟩:=x
 have cN:=fun W=>impl_NameOk_c xs hx.2.1 W
 unfold tyNameOk
 dsimp only
 generalize nameOk xs=no at *
 have key:∀l:List UInt8,(xs.toList == l)=true->l≠sRef->(xs.toList == sRef)=false:=fun l h1 h2=>by rw[eq_of_beq h1];simpa using h2
 cases e1:(xs.toList == sRef)<;>cases e2:(xs.toList == sArrow)<;>cases e3:(xs.toList == sStar)<;>cases e4:(xa == 1)<;>cases e5:(xa == 2)
 all_goals unfold sRef at e1
 all_goals unfold sArrow at e2
 all_goals unfold sStar at e3
 all_goals clear key hx
 all_goals
  go_enter Tryz.func189,Tryz.ntmps189
  go_upto_region 1 with fail
  have D:RowAt (w.alloc (.cells #[.int .i64 xv,.string xs,.int .i64 xa] 107)) (w.heap.size) 0 [.int .i64 xv,.string xs,.int .i64 xa]:=RowAt.box w #[.int .i64 xv,.string xs,.int .i64 xa] 107
  have hw:Below w.heap.size w (w.alloc (.cells #[.int .i64 xv,.string xs,.int .i64 xa] 107)):=by go_grown
  generalize (w.alloc (.cells #[.int .i64 xv,.string xs,.int .i64 xa] 107))=w0 at *
  obtain⟨d_0,d_1,d_2⟩:=D.box3;have hsD:=bLt d_0
  go_wp2_with (go_at_call 103;((with_reducible refine(cN _).mono ?_);rintro e w1 ⟨rfl,hb⟩;have hw:=hw.trans (hb.mono hw.size);have D:=D.below hb;obtain⟨d_0,d_1,d_2⟩:=D.box3;have hsD:=bLt d_0;clear hb))
  go_returns
  exact⟨rfl,hw⟩
theorem tyOk_c (l:List GTyItem) (hl:l.length<=1152921504606846976) (v:Value) (lo:Nat) (w:World) (hv:Sl GTyItem.R 3 lo w v l) :
  Calls Tryz.prog 182 #[v] w fun e w'=>e=.returned (.bool (tyGo 1 l))/\Below w.heap.size w w':=by
 obtain⟨a,c,rfl,ul,um,h0⟩:=hv
 obtain⟨n,hn⟩ : ∃n,n=l.length:=⟨_,rfl⟩
 rw[<- hn]at ul hl ⊢
 replace hn:=kH hn
 generalize hr:tyGo 1 l=res
 have hr0:Hid (tyGo 1 (l.drop 0)=res):=by rw[List.drop_zero];exact hr
 clear hr
 replace h0:=kH h0
 go_enter Tryz.func182,Tryz.ntmps182
 go_wp2_with fail
 go_loopw [3,8] (fun nd ii wr=>∃k m:Nat,k<=n/\m<=2*k+1/\nd=.int .i64 m/\ii=.int .i64 k/\Hid (tyGo m (l.drop k)=res)/\Below w.heap.size w wr) (fun _ ii _=>n-(intOf ii).toNat)
 case atStart=>exact⟨0,1,by omega,by omega,rfl,rfl,hr0,Below.refl _ _⟩
 case round=>
  clear hr0
  obtain⟨k,m,hk,hm,rfl,rfl,hr,hw⟩:=hrel
  by_cases hlt:k<n
  ·obtain⟨b1,o1,x,s1,_,rfl,P1,⟨rfl,hwf⟩,r1⟩:=(h0.out.below GTyItem.good hw).get hn.out hlt
   have hdrop:l.drop k=x :: l.drop (k+1):=by
    obtain⟨hjl,he⟩:=List.getElem?_eq_some_iff.1 P1.out
    rw[List.drop_eq_getElem_cons hjl,he]
   obtain⟨e_0,e_1,e_2⟩:=r1.cells3
   have hb1:=World.block_lt_of_cell? _ _ e_0;dsimp only at hb1
   by_cases hm0:m=0
   ·subst hm0
    have hres:res=false:=by rw[<- hr.out,hdrop];rfl
    subst hres
    clear hr P1 hwf hdrop
    go_wp2_with fail
    go_returns
    exact⟨rfl,hw.trans (Below.mono (by go_grown) hw.size)⟩
   obtain⟨m,rfl⟩ : ∃m',m=m' + 1:=⟨m-1,by omega⟩
   have hres:(itemOk x&&tyGo (m+x.arity.toNat) (l.drop (k+1)))=res:=by rw[<- hr.out,hdrop];rfl
   have har:=fun h=>itemOk_ar (x:=x) h
   have cN:=fun W=>tyName_c x hwf W
   obtain⟨xv,xs,xa⟩:=x
   dsimp only at *
   have hI:itemOk ⟨xv,xs,xa⟩=if xs.toList.isEmpty then (decide (0<=xv/\xv<=9999)&&xa == 0) else (xv == 0&&(decide (0<=xa/\xa<=2)&&tyNameOk ⟨xv,xs,xa⟩)):=rfl
   generalize itemOk ⟨xv,xs,xa⟩=q at *
   generalize tyNameOk ⟨xv,xs,xa⟩=tn at *
   have cW:=fun W=>within_c xv 0 9999 W
   have cW2:=fun W=>within_c xa 0 2 W
   generalize hd1:decide (0<=xv/\xv<=9999)=d1 at *
   generalize hd2:decide (0<=xa/\xa<=2)=d2 at *
   have em:(((m+1:Nat):Int) == 0)=false:=by simp;omega
   have xI:I64 xa:=hwf.2.2
   clear P1 hdrop hr r1 hwf hd1 hd2 hm0
   have hx0:(xa == 0)=true->xa=0:=fun h=>by simpa using h
   replace hres:=kH hres;replace har:=kH har;replace xI:=kH xI;replace hx0:=kH hx0
   have hnext:∀W,q=true->Below w.heap.size w W->∃k' m' : Nat,k'<=n/\m'<=2*k' + 1/\(.int .i64 ((m:Int)+xa):Value)=.int .i64 m'/\(.int .i64 ((k:Int)+1):Value)=.int .i64 k'/\Hid (tyGo m' (l.drop k')=res)/\Below w.heap.size w W:=fun W hq hW=>by
    have h1:=har.out hq
    refine⟨k+1,m+xa.toNat,by omega,by omega,by go_num,by go_num,?_,hW⟩
    show _=_
    rw[<- hres.out,hq];rfl
   replace hnext:=kH hnext
   have hz:=hw.size
   go_upto_region 5 with fail
   have hb1' : Below wr.heap.size wr (wr.alloc (.cells #[.int .i64 xv,.string xs,.int .i64 xa] 107)):=by go_grown
   have D:RowAt (wr.alloc (.cells #[.int .i64 xv,.string xs,.int .i64 xa] 107)) wr.heap.size 0 [.int .i64 xv,.string xs,.int .i64 xa]:=RowAt.box _ _ _
   have hw':=hw.trans (hb1'.mono hz)
   generalize wr.alloc (.cells #[.int .i64 xv,.string xs,.int .i64 xa] 107)=w0 at *
   clear hw hb1' e_0 e_1 e_2 hz
   have hw:=hw';clear hw'
   obtain⟨d_0,d_1,d_2⟩:=D.box3;have hsD:=bLt d_0
   have eb:∀y:Int,(y != 0) = !(y == 0):=fun y=>rfl
   cases e1:xs.toList.isEmpty
   ·rw[e1]at hI
    cases e2:(xv == 0)
    ·rw[e2]at hI
     have q0:q=false:=hI
     subst q0
     have hres0:=hres.out
     rw[Bool.false_and]at hres0
     clear hres hI
     subst hres0
     have e2' : (xv != 0)=true:=by rw[eb,e2];rfl
     clear eb
     go_wp2_with fail
     go_returns
     exact⟨rfl,hw⟩
    ·have e2' : (xv != 0)=false:=by rw[eb,e2];rfl
     rw[e2]at hI
     replace hI:q=(d2&&tn):=hI
     clear eb
     cases d2
     ·subst hI
      have hres0:=hres.out
      rw[Bool.false_and,Bool.false_and]at hres0
      clear hres
      subst hres0
      go_wp2_with (first|(go_at_call 66;((with_reducible refine(cW2 _).mono ?_);rintro e w1 ⟨rfl,rfl⟩))|(go_at_call 189;((with_reducible refine(cN _).mono ?_);rintro e w1 ⟨rfl,hb⟩;have hw:=hw.trans (hb.mono hw.size);have D:=D.below hb;obtain⟨d_0,d_1,d_2⟩:=D.box3;have hsD:=bLt d_0;clear hb)))
      go_returns
      exact⟨rfl,hw⟩
     ·cases tn
      ·subst hI
       have hres0:=hres.out
       rw[Bool.and_false,Bool.false_and]at hres0
       clear hres
       subst hres0
       go_wp2_with (first|(go_at_call 66;((with_reducible refine(cW2 _).mono ?_);rintro e w1 ⟨rfl,rfl⟩))|(go_at_call 189;((with_reducible refine(cN _).mono ?_);rintro e w1 ⟨rfl,hb⟩;have hw:=hw.trans (hb.mono hw.size);have D:=D.below hb;obtain⟨d_0,d_1,d_2⟩:=D.box3;have hsD:=bLt d_0;clear hb)))
       go_returns
       exact⟨rfl,hw⟩
      ·subst hI
       have hxa:0<=xa/\xa<=2:=har.out rfl
       clear har hx0
       go_wp2_with (first|(go_at_call 66;((with_reducible refine(cW2 _).mono ?_);rintro e w1 ⟨rfl,rfl⟩))|(go_at_call 189;((with_reducible refine(cN _).mono ?_);rintro e w1 ⟨rfl,hb⟩;have hw:=hw.trans (hb.mono hw.size);have D:=D.below hb;obtain⟨d_0,d_1,d_2⟩:=D.box3;have hsD:=bLt d_0;clear hb)))
       have hN:=hnext.out _ rfl hw
       go_roundw
       case rel=>exact hN
       case measure=>simp[intOf];omega
   ·rw[e1]at hI
    replace hI:q=(d1&&xa == 0):=hI
    cases e2:(xa == 0)
    ·have e2' : (xa != 0)=true:=by rw[eb,e2];rfl
     rw[e2,Bool.and_false]at hI
     subst hI
     have hres0:=hres.out
     rw[Bool.false_and]at hres0
     clear hres eb
     subst hres0
     cases d1
     all_goals
      go_wp2_with (first|(go_at_call 66;((with_reducible refine(cW _).mono ?_);rintro e w1 ⟨rfl,rfl⟩))|(go_at_call 189;((with_reducible refine(cN _).mono ?_);rintro e w1 ⟨rfl,hb⟩;have hw:=hw.trans (hb.mono hw.size);have D:=D.below hb;obtain⟨d_0,d_1,d_2⟩:=D.box3;have hsD:=bLt d_0;clear hb)))
      go_returns
      exact⟨rfl,hw⟩
    ·have e2' : (xa != 0)=false:=by rw[eb,e2];rfl
     rw[e2,Bool.and_true]at hI
     clear eb
     have hxa:=hx0.out e2
     cases d1
     ·subst hI
      have hres0:=hres.out
      rw[Bool.false_and]at hres0
      clear hres
      subst hres0
      clear hxa
      go_wp2_with (first|(go_at_call 66;((with_reducible refine(cW _).mono ?_);rintro e w1 ⟨rfl,rfl⟩))|(go_at_call 189;((with_reducible refine(cN _).mono ?_);rintro e w1 ⟨rfl,hb⟩;have hw:=hw.trans (hb.mono hw.size);have D:=D.below hb;obtain⟨d_0,d_1,d_2⟩:=D.box3;have hsD:=bLt d_0;clear hb)))
      go_returns
      exact⟨rfl,hw⟩
     ·subst hI
      have hz0:(.int .i64 ((m:Int)+xa):Value)=.int .i64 (m:Int):=by rw[hxa];go_num
      have hN0:=fun W hW=>hnext.out W rfl hW
      rw[hz0]at hN0
      replace hN0:=kH hN0
      clear hnext har hx0 hz0 hxa
      go_wp2_with (first|(go_at_call 66;((with_reducible refine(cW _).mono ?_);rintro e w1 ⟨rfl,rfl⟩))|(go_at_call 189;((with_reducible refine(cN _).mono ?_);rintro e w1 ⟨rfl,hb⟩;have hw:=hw.trans (hb.mono hw.size);have D:=D.below hb;obtain⟨d_0,d_1,d_2⟩:=D.box3;have hsD:=bLt d_0;clear hb)))
      have hN:=hN0.out _ hw
      go_roundw
      case rel=>exact hN
      case measure=>simp[intOf];omega
  ·obtain rfl:k=n:=by omega
   have hres:(m == 0)=res:=by rw[<- hr.out,List.drop_of_length_le (by rw[<- hn.out];exact Nat.le_refl _)];cases m<;>rfl
   clear hr
   have em:((m:Int) == 0)=res:=by rw[<- hres];cases m<;>simp<;>omega
   clear hres
   go_wp2_with fail
   go_returns
   exact⟨rfl,hw⟩
end Go.Proofs.YtkikkfjmggobpaaGreat
namespace Go.Proofs.YtkikkfjmggobpaaGreat
open Go.RowKit
set_option linter.unusedVariables false
set_option linter.unusedSimpArgs false
theorem empB:(⟨#[]⟩ : ByteArray).toList.isEmpty=true:=by rw[ByteArray.toList_eq];rfl
def NamesY:TyT->Prop
 |.v _=>True
 |.c0 s=>s.toList.isEmpty=false
 |.c1 s a=>s.toList.isEmpty=false/\NamesY a
 |.c2 s a b=>s.toList.isEmpty=false/\NamesY a/\NamesY b
def NamesS (σ:Sbs):Prop:=∀p∈σ,NamesY p.2
def putX (σ:Sbs) (x:GTyItem):List GTyItem:=if x.name.toList.isEmpty=true then (match getS σ x.var with
 |some u=>flatY u
 |none=>[x]) else [x]
def putL (σ:Sbs) (l:List GTyItem):List GTyItem:=l.flatMap (putX σ)
theorem putL_append (σ:Sbs) (l m:List GTyItem):putL σ (l++m)=putL σ l++putL σ m:=List.flatMap_append
theorem putX_named {σ:Sbs} {x:GTyItem} (h:x.name.toList.isEmpty=false):putX σ x=[x]:=by unfold putX;rw[if_neg (by rw[h];simp)]
theorem putL_flat (σ:Sbs):∀t,NamesY t->putL σ (flatY t)=flatY (subY σ t)
 |.v n,_=>by
  show putX σ ⟨n,⟨#[]⟩,0⟩ ++ []=_
  unfold putX subY
  rw[if_pos empB,List.append_nil]
  dsimp only
  cases getS σ n<;>rfl
 |.c0 s,h=>by
  show putX σ ⟨0,s,0⟩ ++ []=_
  rw[putX_named (x:=⟨0,s,0⟩) h];rfl
 |.c1 s a,h=>by
  show putX σ ⟨0,s,1⟩ ++ putL σ (flatY a)=_
  rw[putX_named (x:=⟨0,s,1⟩) h.1,putL_flat σ a h.2];rfl
 |.c2 s a b,h=>by
  show putX σ ⟨0,s,2⟩ ++ putL σ (flatY a++flatY b)=_
  rw[putX_named (x:=⟨0,s,2⟩) h.1,putL_append,putL_flat σ a h.2.1,putL_flat σ b h.2.2];rfl
theorem names_sub {σ:Sbs} (hσ:NamesS σ):∀t,NamesY t->NamesY (subY σ t)
 |.v n,_=>by
  unfold subY
  cases hg:getS σ n with
  |none=>trivial
  |some u=>exact hσ _ (getS_some hg)
 |.c0 s,h=>h
 |.c1 s a,h=>⟨h.1,names_sub hσ a h.2⟩
 |.c2 s a b,h=>⟨h.1,names_sub hσ a h.2.1,names_sub hσ b h.2.2⟩
theorem names_ins {n:Int} {u:TyT} {σ:Sbs} (hσ:NamesS σ) (hu:NamesY u):NamesS (insS n u (mapS n u σ)):=fun p hp=>by
 rcases insS_mem.1 hp with rfl|hp
 ·exact hu
 ·obtain⟨q,hq,rfl⟩:=mapS_mem hp
  exact names_sub (fun r hr=>by rcases List.mem_cons.1 hr with rfl|hr;exact hu;cases hr) _ (hσ q hq)
theorem restT_flat:∀ (t:TyT) (n:Nat) (r:List GTyItem),restT (n+1) (flatY t++r)=restT n r
 |.v _,n,r=>rfl
 |.c0 _,n,r=>rfl
 |.c1 s a,n,r=>by
  show restT (n+1) (flatY a++r)=_
  exact restT_flat a n r
 |.c2 s a b,n,r=>by
  show restT (n+2) ((flatY a++flatY b)++r)=_
  rw[List.append_assoc,restT_flat a (n+1),restT_flat b n]
theorem restT_zero (r:List GTyItem):restT 0 r=some r:=by cases r<;>rfl
theorem restT_one (t:TyT) (r:List GTyItem):restT 1 (flatY t++r)=some r:=by rw[restT_flat t 0,restT_zero]
theorem tyGo_tree:∀ (k:Nat) (l:List GTyItem) (n:Nat),l.length<=k->tyGo (n+1) l=true->∃t r,l=flatY t++r/\tyGo n r=true/\NamesY t/\r.length<l.length
 |k,[],n,_,h=>by simp[tyGo]at h
 |0,x :: xs,n,hk,_=>by simp at hk
 |k+1,x :: xs,n,hk,h=>by
  rw[List.length_cons]at hk
  rw[tyGo,Bool.and_eq_true]at h
  obtain⟨h1,h2⟩:=h
  obtain⟨va,nm,ar⟩:=x
  have h1':=h1
  unfold itemOk at h1
  dsimp only at h1 h2
  split at h1
  ·rename_i he
   simp only[Bool.and_eq_true,beq_iff_eq]at h1
   obtain⟨-,rfl⟩:=h1
   have hn:nm=⟨#[]⟩:=by
    have:nm.toList=(⟨#[]⟩ : ByteArray).toList:=by rw[List.isEmpty_iff.1 he,List.isEmpty_iff.1 empB]
    exact(toList_eq _ _).1 this
   subst hn
   exact⟨.v va,xs,rfl,by simpa using h2,trivial,by simp⟩
  ·rename_i he
   have he' : nm.toList.isEmpty=false:=by simpa using he
   simp only[Bool.and_eq_true,beq_iff_eq,decide_eq_true_eq]at h1
   obtain⟨rfl,⟨h3,h4⟩,-⟩:=h1
   rcases show ar=0\/ar=1\/ar=2 by omega with rfl|rfl|rfl
   ·exact⟨.c0 nm,xs,rfl,by simpa using h2,he',by simp⟩
   ·obtain⟨t,r,rfl,h5,h6,h7⟩:=tyGo_tree k xs n (by omega) h2
    exact⟨.c1 nm t,r,rfl,h5,⟨he',h6⟩,by rw[List.length_cons];omega⟩
   ·obtain⟨t,r,rfl,h5,h6,h7⟩:=tyGo_tree k xs (n+1) (by omega) h2
    obtain⟨t2,r2,rfl,h8,h9,h10⟩:=tyGo_tree k r n (by omega) h5
    exact⟨.c2 nm t t2,r2,by simp[flatY],h8,⟨he',h6,h9⟩,by rw[List.length_cons];omega⟩
theorem tyOk_tree {x:GTy} (h:tyOk x=true):∃t,x.items=flatY t/\NamesY t/\szY t<=200:=by
 unfold tyOk at h
 rw[Bool.and_eq_true]at h
 obtain⟨h1,h2⟩:=h
 have h1:=of_decide_eq_true h1
 obtain⟨t,r,e,h3,h4,h5⟩:=tyGo_tree _ x.items 0 (Nat.le_refl _) h2
 have hr:r=[]:=by cases r with
  |nil=>rfl
  |cons a l=>simp[tyGo]at h3
 subst hr
 rw[List.append_nil]at e
 exact⟨t,e,h4,by rw[e,flatY_len]at h1;omega⟩
theorem vars_items {p:Int} : ∀t:TyT,(∀x∈flatY t,x.name.toList.isEmpty=true->0<=x.var/\x.var<p)->VarsIn p t
 |.v n,h,k,hk=>by
  simp only[occY,beq_iff_eq]at hk
  subst hk
  exact h ⟨k,⟨#[]⟩,0⟩ (by simp[flatY]) empB
 |.c0 s,_,k,hk=>by simp[occY]at hk
 |.c1 s a,h,k,hk=>vars_items a (fun x hx=>h x (by simp[flatY,hx])) k hk
 |.c2 s a b,h,k,hk=>by
  simp only[occY,Bool.or_eq_true]at hk
  rcases hk with hk|hk
  ·exact vars_items a (fun x hx=>h x (by simp[flatY,hx])) k hk
  ·exact vars_items b (fun x hx=>h x (by simp[flatY,hx])) k hk
def dig (n:Nat):UInt8:=UInt8.ofNat (48+n % 10)
def digs (n:Nat) (s:ByteArray):ByteArray:=if n=0 then s else digs (n / 10) (⟨#[dig n]⟩ ++ s)
def markT (n:Nat):ByteArray:=if n=0 then ⟨#[109,48]⟩ else ⟨#[109]⟩ ++ digs n ⟨#[]⟩
theorem digs_zero (s:ByteArray):digs 0 s=s:=by rw[digs];rfl
theorem digs_pos {n:Nat} (h:n≠0) (s:ByteArray):digs n s=digs (n / 10) (⟨#[dig n]⟩ ++ s):=by conv=>lhs;rw[digs];rw[if_neg h]
/-! ### What may be written, and what is written -/
def Kept (S:Nat->Prop) (w w' : World):Prop:=∀k,k<w.heap.size->¬ S k->w'.heap[k]? = w.heap[k]?
theorem Kept.refl (S:Nat->Prop) (w:World):Kept S w w:=fun _ _ _=>rfl
theorem Kept.trans {S:Nat->Prop} {a b c:World} (h:Kept S a b) (hs:a.heap.size<=b.heap.size) (h' : Kept S b c):Kept S a c:=fun k h1 h2=>(h' k (by omega) h2).trans (h k h1 h2)
theorem Kept.below {S:Nat->Prop} {a b:World} (h:Below a.heap.size a b):Kept S a b:=fun k h1 _=>h.block k h1
theorem Kept.set {S:Nat->Prop} {a b:World} (h:Kept S a b) {p:Addr} (hp:S p.block) (u:Value):Kept S a (b.setCell p u):=fun k h1 h2=>
 (Below.heap_setCell _ _ _ _ (fun e=>h2 (by rw[e];exact hp))).trans (h k h1 h2)
def Wr (w:World) (b off N:Nat):Prop:=∀j,j<N->∃c,w.cell? ⟨b,off+j,none⟩=some c/\w.frozen? ⟨b,off+j,none⟩=false
theorem Wr.below {w w' : World} {b off N:Nat} (h:Wr w b off N) (hb:Below w.heap.size w w'):Wr w' b off N:=fun j hj=>
 let ⟨c,h1,h2⟩:=h j hj
 ⟨c,cell_below hb h1,by rw[hb.frozen (p:=⟨b,off+j,none⟩) (World.block_lt_of_cell? w _ h1),h2]⟩
theorem Wr.set {w:World} {b off N:Nat} (h:Wr w b off N) (o:Nat) (u:Value):Wr (w.setCell ⟨b,o,none⟩ u) b off N:=fun j hj=>by
 obtain⟨c,h1,h2⟩:=h j hj
 by_cases e:o=off+j
 ·subst e;exact⟨u,cell_setCell_eq _ _ _ _ h1,by rw[frozen_setCell,h2]⟩
 ·exact⟨c,by rw[cell_setCell_ne _ _ _ _ _ e,h1],by rw[frozen_setCell,h2]⟩
def Mk (w:World) (b off N:Nat) (f:Nat->Value):Prop:=∀j,j<N->w.cell? ⟨b,off+j,none⟩=some (f j)
theorem Mk.below {w w' : World} {b off N:Nat} {f:Nat->Value} (h:Mk w b off N f) (hb:Below w.heap.size w w'):Mk w' b off N f:=fun j hj=>cell_below hb (h j hj)
theorem Mk.kept {S:Nat->Prop} {w w' : World} {b off N:Nat} {f:Nat->Value} (h:Mk w b off N f) (hk:Kept S w w') (hS : ¬ S b):Mk w' b off N f:=fun j hj=>by
 rw[World.cell?_of_block (w:=w) (a:=⟨b,off+j,none⟩) (hk b (World.block_lt_of_cell? w _ (h j hj)) hS)]
 exact h j hj
theorem Mk.step {w:World} {b off N k:Nat} {f:Nat->Value} (h:Mk w b off k f) (hA:Wr w b off N) (hk:k<N) {u:Value} (hu:u=f k):Mk (w.setCell ⟨b,off+k,none⟩ u) b off (k+1) f:=fun j hj=>by
 by_cases e:j=k
 ·subst e
  obtain⟨c,h1,_⟩:=hA j hk
  rw[cell_setCell_eq _ _ _ _ h1,hu]
 ·rw[cell_setCell_ne _ _ _ _ _ (by omega)]
  exact h j (by omega)
theorem own_below {w w' : World} {base:Nat} {e:TypeId} {size:Nat} {v:Value} {n:Nat} {xs:List Value} (h:w.ownsRow base e size v n xs) (hb:Below w.heap.size w w'):w'.ownsRow base e size v n xs:=by
 refine⟨h.1,?_⟩
 rcases h.2 with h0|⟨g,cap,cur,hv,h1,h2,h3⟩
 ·exact .inl h0
 ·refine .inr ⟨g,cap,cur,hv,h1,?_,h3⟩
  have hlt:g<w.heap.size:=by
   rcases Nat.lt_or_ge g w.heap.size with hlt|hge
   ·exact hlt
   ·rw[Array.getElem?_eq_none hge]at h2;cases h2
  rw[hb.block g hlt,h2]
theorem own_kept {S:Nat->Prop} {w w' : World} {base:Nat} {e:TypeId} {size:Nat} {v:Value} {n:Nat} {xs:List Value} (h:w.ownsRow base e size v n xs) (hk:Kept S w w') (hS:∀g,v.ownBlock=some g->¬ S g):w'.ownsRow base e size v n xs:=by
 refine⟨h.1,?_⟩
 rcases h.2 with h0|⟨g,cap,cur,hv,h1,h2,h3⟩
 ·exact .inl h0
 ·refine .inr ⟨g,cap,cur,hv,h1,?_,h3⟩
  have hlt:g<w.heap.size:=by
   rcases Nat.lt_or_ge g w.heap.size with hlt|hge
   ·exact hlt
   ·rw[Array.getElem?_eq_none hge]at h2;cases h2
  rw[hk g hlt (hS g (by rw[hv];rfl)),h2]
theorem own_none {w:World} {base:Nat} {e:TypeId} {size:Nat} : w.ownsRow base e size (.slice none 0 0) 0 []:=⟨by simp,.inl ⟨rfl,rfl⟩⟩
theorem own_cells {w:World} {base:Nat} {e:TypeId} {size:Nat} {v:Value} {n:Nat} {xs:List Value} (h:w.ownsRow base e size v n xs) (hn:0<n) :
  ∃g cap,v=.slice (some ⟨g,0,none⟩) n cap/\base<=g/\g<w.heap.size/\n<=cap/\cap<=9223372036854775807/\RowAt w g 0 xs/\Wr w g 0 (n*size):=by
 rcases h.2 with⟨_,h0⟩|⟨g,cap,cur,hv,h1,h2,h3,h4,h5,h6⟩
 ·omega
 have hlt:g<w.heap.size:=by
  rcases Nat.lt_or_ge g w.heap.size with hlt|hge
  ·exact hlt
  ·rw[Array.getElem?_eq_none hge]at h2;cases h2
 refine⟨g,cap,hv,h1,hlt,h3,by unfold maxLen at h4;omega,fun j c hc=>?_,fun j hj=>?_⟩
 ·rw[cell_of_row w g _ cur e (0,0) h2,Nat.zero_add,<- Array.getElem?_toList]
  rw[<- h6,List.getElem?_take]at hc
  split at hc
  ·exact hc
  ·cases hc
 ·have hjc:j<cur.size:=by
   rw[h5]
   exact Nat.lt_of_lt_of_le hj (Nat.mul_le_mul_right _ h3)
  refine⟨cur[j],?_,?_⟩
  ·rw[cell_of_row w g _ cur e (0,0) h2,Nat.zero_add,Array.getElem?_eq_getElem hjc]
  ·simp[World.frozen?,h2]
theorem own_base {w:World} {base:Nat} {e:TypeId} {size:Nat} {v:Value} {n:Nat} {xs:List Value} (h:w.ownsRow base e size v n xs):∀g,v.ownBlock=some g->base<=g/\g<w.heap.size:=fun g hg=>by
 rcases h.2 with⟨rfl,_⟩|⟨g',cap,cur,rfl,h1,h2,h3⟩
 ·cases hg
 ·obtain rfl:g' = g:=by simpa [Value.ownBlock] using hg
  refine⟨h1,?_⟩
  rcases Nat.lt_or_ge g' w.heap.size with hlt|hge
  ·exact hlt
  ·rw[Array.getElem?_eq_none hge]at h2;cases h2
theorem kept_grown {w w' : World} {row:Option Nat} (h:w.grownBy w' row):Kept (fun k=>some k=row) w w':=fun k h1 h2=>h.block k h1 h2
theorem below_grown {w w1 w' : World} {base:Nat} {e:TypeId} {size:Nat} {v:Value} {n:Nat} {xs:List Value} (h:Below base w w1) (hb:base<=w1.heap.size) (hO:w1.ownsRow base e size v n xs) (hg:w1.grownBy w' v.ownBlock):Below base w w':=
 h.grown hg hb (fun k hk=>(own_base hO k hk).1)
theorem kept_of {w w1 w' : World} {row:Option Nat} (h:w1.grownBy w' row) (hb:Below w.heap.size w w1):Kept (fun k=>some k=row) w w':=(Kept.below hb).trans hb.size (kept_grown h)
theorem below_grown2 {w wr w1 w' : World} {base:Nat} {e:TypeId} {size:Nat} {v:Value} {n:Nat} {xs:List Value} (hg:w1.grownBy w' v.ownBlock) (hB:Below wr.heap.size wr w1) (h:Below base w wr) (hb:base<=wr.heap.size) (hO:wr.ownsRow base e size v n xs):Below base w w':=
 below_grown (h.trans (hB.mono hb)) (Nat.le_trans hb hB.size) (own_below hO hB) hg
theorem heap_alloc_new' (w:World) (o:Obj) (k:Nat) (hk:k=w.heap.size):(w.alloc o).heap[k]? = some o:=by subst hk;exact heap_alloc_new w o
theorem own_new (w:World) (cs:Array Value) (e:TypeId) (size n:Nat) (h:cs.size=n*size) (hm:n<=maxLen) (base:Nat) (hb:base<=w.heap.size):(w.alloc (.cells cs e)).ownsRow base e size (.slice (some ⟨w.heap.size,0,none⟩) n n) n cs.toList:=
 ⟨by simpa using h,.inr ⟨w.heap.size,n,cs,rfl,hb,heap_alloc_new w _,Nat.le_refl _,hm,h,by rw[<- h];exact List.take_of_length_le (by simp)⟩⟩
structure Flat {α:Type} (R:Reading α) (sz:Nat) (f:α->List Value) (wf:α->Prop):Prop where
 row:∀ {lo w r x},R lo w r x->r=f x/\wf x
 back:∀ {x},wf x->∀lo w,R lo w (f x) x
 len:∀x,(f x).length=sz
 one:∀x,∀u∈f x,u.oneCell' = true
 pos:0<sz
def rowsOf {α:Type} (f:α->List Value) (xs:List α):List Value:=xs.flatMap f
section
variable {α:Type} {R:Reading α} {sz:Nat} {f:α->List Value} {wf:α->Prop}
theorem rowsOf_append (xs ys:List α):rowsOf f (xs++ys)=rowsOf f xs++rowsOf f ys:=by unfold rowsOf;rw[List.flatMap_append]
theorem rowsOf_one (x:α):rowsOf f [x]=f x:=by unfold rowsOf;simp
theorem Flat.length (F:Flat R sz f wf):∀xs:List α,(rowsOf f xs).length=xs.length*sz
 |[]=>by simp[rowsOf]
 |x :: xs=>by
  have h:=F.length xs
  have e:rowsOf f (x :: xs)=f x++rowsOf f xs:=by unfold rowsOf;simp
  rw[e,List.length_append,F.len,h,List.length_cons,Nat.succ_mul];omega
theorem Flat.get (F:Flat R sz f wf):∀ {xs:List α} {i:Nat} {x:α} {j:Nat} {c:Value},xs[i]? = some x->(f x)[j]? = some c->(rowsOf f xs)[i*sz+j]? = some c
 |[],i,x,j,c,h,_=>by simp at h
 |y :: xs,0,x,j,c,h,hj=>by
  obtain rfl:y=x:=by simpa using h
  have e:rowsOf f (y :: xs)=f y++rowsOf f xs:=by unfold rowsOf;simp
  rw[e,Nat.zero_mul,Nat.zero_add,List.getElem?_append_left (List.getElem?_eq_some_iff.1 hj).1,hj]
 |y :: xs,i+1,x,j,c,h,hj=>by
  have ih:=F.get (xs:=xs) (i:=i) (x:=x) (j:=j) (c:=c) (by simpa using h) hj
  have e:rowsOf f (y :: xs)=f y++rowsOf f xs:=by unfold rowsOf;simp
  rw[e,List.getElem?_append_right (by rw[F.len,Nat.succ_mul];omega),F.len,show(i+1)*sz+j-sz=i*sz+j by rw[Nat.succ_mul];omega]
  exact ih
theorem Flat.inv (F:Flat R sz f wf):∀ {xs:List α} {j:Nat} {c:Value},(rowsOf f xs)[j]? = some c->∃i x t,xs[i]? = some x/\(f x)[t]? = some c/\j=i*sz+t
 |[],j,c,h=>by simp[rowsOf]at h
 |y :: xs,j,c,h=>by
  have e:rowsOf f (y :: xs)=f y++rowsOf f xs:=by unfold rowsOf;simp
  rw[e]at h
  by_cases hj:j<sz
  ·rw[List.getElem?_append_left (by rw[F.len];exact hj)]at h
   exact⟨0,y,j,rfl,h,by omega⟩
  ·rw[List.getElem?_append_right (by rw[F.len];omega),F.len]at h
   obtain⟨i,x,t,h1,h2,h3⟩:=F.inv h
   exact⟨i+1,x,t,by simpa using h1,h2,by rw[Nat.succ_mul];omega⟩
theorem Flat.ones (F:Flat R sz f wf) (xs:List α):∀u∈rowsOf f xs,u.oneCell' = true:=fun u hu=>by
 unfold rowsOf at hu
 obtain⟨x,_,hx⟩:=List.mem_flatMap.1 hu
 exact F.one x u hx
theorem Flat.wfs (F:Flat R sz f wf) {lo:Nat} {w:World} {v:Value} {xs:List α} (h:Sl R sz lo w v xs):∀x∈xs,wf x:=fun x hx=>by
 obtain⟨i,hi,rfl⟩:=List.getElem_of_mem hx
 obtain⟨a,c,rfl,_,_,h0⟩:=h
 obtain⟨b,off,y,r,_,_,P1,hy,_⟩:=h0.get (kH rfl) hi
 obtain rfl:xs[i]=y:=by have:=P1.out;rw[List.getElem?_eq_getElem hi]at this;exact Option.some.inj this
 exact(F.row hy).2
theorem Flat.cells (F:Flat R sz f wf) {lo:Nat} {w:World} {a:Option Addr} {xs:List α} (h:SlAt R sz lo w a xs) (h0:0<xs.length) :
  ∃b off,lo<=b/\b<w.heap.size/\a=some ⟨b,off,none⟩/\RowAt w b off (rowsOf f xs):=by
 obtain⟨b,off,hl,ha,h4⟩:=h h0
 have hrow:RowAt w b off (rowsOf f xs):=fun j c hc=>by
  obtain⟨i,x,t,h1,h2,rfl⟩:=F.inv hc
  obtain⟨r,h5,h6⟩:=h4 i x h1
  obtain⟨rfl,_⟩:=F.row h5
  have:=h6 t c h2
  rwa [Nat.add_assoc]at this
 refine⟨b,off,hl,?_,ha,hrow⟩
 have h1:0<(rowsOf f xs).length:=by rw[F.length];exact Nat.mul_pos h0 F.pos
 exact World.block_lt_of_cell? w _ (hrow 0 _ (List.getElem?_eq_getElem h1))
def OwnF (e:TypeId) (sz:Nat) (f:α->List Value) (wf:α->Prop) (lo:Nat) (w:World) (v:Value) (xs:List α):Prop:=
 w.ownsRow lo e sz v xs.length (rowsOf f xs)/\∀x∈xs,wf x
theorem own_form {w:World} {base:Nat} {e:TypeId} {size:Nat} {v:Value} {n:Nat} {xs:List Value} (h:w.ownsRow base e size v n xs):∃a c,v=.slice a n c:=by
 rcases h.2 with⟨rfl,rfl⟩|⟨g,cap,cur,rfl,_⟩<;>exact⟨_,_,rfl⟩
theorem own_lo {w:World} {base base' : Nat} {e:TypeId} {size:Nat} {v:Value} {n:Nat} {xs:List Value} (h:w.ownsRow base e size v n xs) (hb:base'<=base):w.ownsRow base' e size v n xs:=by
 refine⟨h.1,?_⟩
 rcases h.2 with h0|⟨g',cap',cur,hv,h1,h2⟩
 ·exact .inl h0
 ·exact .inr ⟨g',cap',cur,hv,Nat.le_trans hb h1,h2⟩
theorem OwnF.form {e:TypeId} {lo:Nat} {w:World} {v:Value} {xs:List α} (h:OwnF e sz f wf lo w v xs):∃a c,v=.slice a xs.length c:=own_form h.1
theorem OwnF.below {e:TypeId} {lo:Nat} {w w' : World} {v:Value} {xs:List α} (h:OwnF e sz f wf lo w v xs) (hb:Below w.heap.size w w'):OwnF e sz f wf lo w' v xs:=⟨own_below h.1 hb,h.2⟩
theorem OwnF.kept {S:Nat->Prop} {e:TypeId} {lo:Nat} {w w' : World} {v:Value} {xs:List α} (h:OwnF e sz f wf lo w v xs) (hk:Kept S w w') (hS:∀g,v.ownBlock=some g->¬ S g):OwnF e sz f wf lo w' v xs:=⟨own_kept h.1 hk hS,h.2⟩
theorem OwnF.base {e:TypeId} {lo:Nat} {w:World} {v:Value} {xs:List α} (h:OwnF e sz f wf lo w v xs):∀g,v.ownBlock=some g->lo<=g/\g<w.heap.size:=own_base h.1
theorem OwnF.mono {e:TypeId} {lo lo' : Nat} {w:World} {v:Value} {xs:List α} (h:OwnF e sz f wf lo w v xs) (hl:lo'<=lo):OwnF e sz f wf lo' w v xs:=⟨own_lo h.1 hl,h.2⟩
theorem OwnF.empty {e:TypeId} {lo:Nat} {w:World} : OwnF e sz f wf lo w (.slice none 0 0) ([] : List α):=⟨own_none,fun x h=>by cases h⟩
theorem OwnF.sl {e:TypeId} (F:Flat R sz f wf) {lo:Nat} {w:World} {v:Value} {xs:List α} (h:OwnF e sz f wf lo w v xs):Sl R sz lo w v xs:=by
 by_cases h0:0<xs.length
 ·obtain⟨g,cap,rfl,h1,h2,h3,h4,h5,h6⟩:=own_cells h.1 h0
  refine⟨_,cap,rfl,h3,h4,fun _=>⟨g,0,h1,rfl,fun i x hx=>⟨f x,F.back (h.2 x (List.mem_of_getElem? hx)) _ _,fun j c hc=>?_⟩⟩⟩
  rw[Nat.zero_add]
  have:=h5 _ c (F.get hx hc)
  rwa [Nat.zero_add]at this
 ·have h1:xs=[]:=List.length_eq_zero_iff.1 (by omega)
  subst h1
  rcases h.1.2 with⟨rfl,_⟩|⟨g,cap,cur,rfl,h1,h2,h3,h4,h5⟩
  ·exact Sl.nil
  ·exact⟨_,cap,rfl,h3,by unfold maxLen at h4;omega,fun h=>absurd h (by simp)⟩
theorem own_take {w:World} {base:Nat} {e:TypeId} {size:Nat} {g n cap m:Nat} {xs:List Value} (h:w.ownsRow base e size (.slice (some ⟨g,0,none⟩) n cap) n xs) (hm:m<=n):w.ownsRow base e size (.slice (some ⟨g,0,none⟩) m cap) m (xs.take (m*size)):=by
 have hms:m*size<=n*size:=Nat.mul_le_mul_right _ hm
 refine⟨by rw[List.length_take,h.1];omega,?_⟩
 rcases h.2 with⟨hv,_⟩|⟨g',cap',cur,hv,h1,h2,h3,h4,h5,h6⟩
 ·cases hv
 ·obtain⟨rfl,rfl⟩ : g=g'/\cap=cap':=by injection hv with e1 e2 e3;injection e1 with e1;injection e1 with e1;exact⟨e1,e3⟩
  exact .inr ⟨g,cap,cur,rfl,h1,h2,by omega,h4,h5,by rw[<- h6,List.take_take,Nat.min_eq_left hms]⟩
theorem rowsOf_take (F:Flat R sz f wf) (xs:List α) (m:Nat) (hm:m<=xs.length):(rowsOf f xs).take (m*sz)=rowsOf f (xs.take m):=by
 have e:rowsOf f xs=rowsOf f (xs.take m)++rowsOf f (xs.drop m):=by rw[<- rowsOf_append,List.take_append_drop]
 rw[e,List.take_append_of_le_length (by rw[F.length,List.length_take];exact Nat.mul_le_mul_right _ (by omega)),List.take_of_length_le (by rw[F.length,List.length_take];exact Nat.mul_le_mul_right _ (by omega))]
theorem OwnF.take (F:Flat R sz f wf) {e:TypeId} {lo:Nat} {w:World} {g cap n m:Nat} {xs:List α} (h:OwnF e sz f wf lo w (.slice (some ⟨g,0,none⟩) n cap) xs) (hn:n=xs.length) (hm:m<=n) :
  OwnF e sz f wf lo w (.slice (some ⟨g,0,none⟩) m cap) (xs.take m):=by
 subst hn
 refine⟨?_,fun x hx=>h.2 x (List.mem_of_mem_take hx)⟩
 have:=own_take h.1 hm
 rw[rowsOf_take F xs m hm]at this
 rwa [show(xs.take m).length=m by rw[List.length_take];omega]
/-! ### One element is stored anew -/
theorem storeRow_block (g:Nat):∀ (r:List Value) (w:World) (off:Nat) (cur:Array Value) (e:TypeId),w.heap[g]? = some (.cells cur e (0,0))->off+r.length<=cur.size->
  ∃cur',(storeRow w g off r).heap[g]? = some (.cells cur' e (0,0))/\cur'.size=cur.size/\cur'.toList=cur.toList.take off++r++cur.toList.drop (off+r.length)
 |[],w,off,cur,e,h,ho=>⟨cur,h,rfl,by simp⟩
 |c :: r,w,off,cur,e,h,ho=>by
  simp only[List.length_cons]at ho
  have h1:(w.setCell ⟨g,off,none⟩ c).heap[g]? = some (.cells (cur.set! off c) e (0,0)):=by
   simp[World.setCell,Array.getElem?_modify,h]
  obtain⟨cur',h2,h3,h4⟩:=storeRow_block g r (w.setCell ⟨g,off,none⟩ c) (off+1) (cur.set! off c) e h1 (by simp;omega)
  refine⟨cur',h2,by rw[h3];simp,?_⟩
  rw[h4]
  have hlt:off<cur.toList.length:=by simp;omega
  have e1:(cur.set! off c).toList=cur.toList.set off c:=by simp
  rw[e1,List.take_succ_eq_append_getElem (by simpa using hlt)]
  rw[List.take_set_of_le (Nat.le_refl _)]
  simp only[List.getElem_set_self,List.length_cons,List.append_assoc,List.cons_append,List.nil_append]
  rw[List.drop_set_of_lt (by omega)]
  rw[show off+1+r.length=off+(r.length+1) by omega]
end
/-! ### append of a whole slice -/
section
variable {α:Type} {R:Reading α} {size:Nat} {f:α->List Value} {wf:α->Prop} {P:Program} (w:World)
theorem run_append_sl (F:Flat R size f wf) (t ty:TypeId) (base:Nat) (e:TypeId) (i:TypeInfo) (z:Value) (bytes:Nat) (ht:P.underlying t=some (.slice e)) (hi:P.info? e=some i) (hz:i.zero=some z)
  (hsize:i.size=size) (hby:i.bytes=bytes) (hzs:z.cells.size=size)
  (g0 c0 n:Nat) (xs:List Value) (hown:w.ownsRow base e size (.slice (some ⟨g0,0,none⟩) n c0) n xs)
  (lo:Nat) (u:Value) (ys:List α) (hu:Sl R size lo w u ys)
  (h63:n+ys.length<=maxLen) (hbytes:(n+ys.length)*bytes<=140737488355328) (hbase:base<=w.heap.size) :
  ∃g cap w',(Builtin.append_ #[t,t] ty #[.slice (some ⟨g0,0,none⟩) n c0,u]).run P w=.ok (.slice (some ⟨g,0,none⟩) (n+ys.length) cap) w'/\
   w'.ownsRow base e size (.slice (some ⟨g,0,none⟩) (n+ys.length) cap) (n+ys.length) (xs++rowsOf f ys)/\w.grownBy w' (some g0)/\(g=g0\/g=w.heap.size):=by
 obtain⟨a,c,rfl,l1,m1,hh⟩:=hu
 by_cases h0:0<ys.length
 ·obtain⟨b,off,_,hbs,rfl,hrow⟩:=F.cells hh h0
  obtain⟨g,cap,w',h1,h2,h3,h4,h5⟩:=run_append_lies (P:=P) w t ty base e i z size bytes ht hi hz hsize hby hzs F.pos (.slice (some ⟨g0,0,none⟩) n c0) n xs hown ⟨b,off,none⟩ ys.length c (rowsOf f ys) (F.length ys) (fun j u hj=>by
   have hadd:(⟨b,off,none⟩ : Addr).add j=⟨b,off+j,none⟩:=by unfold Addr.add;split<;>simp_all
   rw[hadd];exact hrow j u hj) (F.ones ys) h0 h63 hbytes hbase _ rfl
  refine⟨g,cap,w',h1,h2,h3,?_⟩
  rcases h4 with h4|h4
  ·exact .inl (by simpa [Value.ownBlock] using h4.symm)
  ·exact .inr h4
 ·have e0:ys=[]:=List.length_eq_zero_iff.1 (by omega)
  subst e0
  have hs:Src P i.size t (.slice a 0 c) 0 [] w:=by
   cases a with
   |none=>exact Src.ofNil w ht c
   |some a=>exact Src.ofSlice w ht a 0 c [] (by simp) (fun j u h=>by simp at h) (fun u h=>by simp at h)
  have hn:n<=c0:=by
   rcases hown.2 with⟨hv,_⟩|⟨g',cap',cur,hv,h1,h2,h3,_⟩
   ·cases hv
   ·injection hv with e1 e2 e3;omega
  have hr:=run_append_room_src (P:=P) w t t ty e i ht hi g0 0 n c0 (.slice a 0 c) 0 [] hs (by omega) (fun j h=>by simp at h) (fun j h=>by simp at h)
  refine⟨g0,c0,w,by simpa [World.setCells] using hr,by simpa [rowsOf] using hown,⟨rfl,rfl,rfl,Nat.le_refl _,fun _ _ _=>rfl⟩,.inl rfl⟩
theorem wp_append_sl (F:Flat R size f wf) {o:Oper} {a:Act} {K:Act->World->Prop} {Q:Exit->Act->World->Prop} (s x:Operand) (t:TypeId)
  (ho:o.op=.call { callee:=.builtin .append,args:=#[s,x],argTypes:=#[t,t] })
  (base:Nat) (e:TypeId) (i:TypeInfo) (z:Value) (bytes:Nat) (ht:P.underlying t=some (.slice e)) (hi:P.info? e=some i) (hz:i.zero=some z)
  (hsize:i.size=size) (hby:i.bytes=bytes) (hzs:z.cells.size=size)
  (g0 c0 n:Nat) (xs:List Value) (hs:a.eval s=.slice (some ⟨g0,0,none⟩) n c0) (hown:w.ownsRow base e size (.slice (some ⟨g0,0,none⟩) n c0) n xs)
  (lo:Nat) (u:Value) (ys:List α) (hx:a.eval x=u) (hu:Sl R size lo w u ys)
  (h63:n+ys.length<=maxLen) (hbytes:(n+ys.length)*bytes<=140737488355328) (hbase:base<=w.heap.size)
  (h:∀g cap w',w'.ownsRow base e size (.slice (some ⟨g,0,none⟩) (n+ys.length) cap) (n+ys.length) (xs++rowsOf f ys)->w.grownBy w' (some g0)->(g=g0\/g=w.heap.size)->K (a.put o.dst (.slice (some ⟨g,0,none⟩) (n+ys.length) cap)) w'):o.wp P a w K Q:=by
 obtain⟨g,cap,w',hr,h2,h3,h4⟩:=run_append_sl (P:=P) w F t o.type base e i z bytes ht hi hz hsize hby hzs g0 c0 n xs hown lo u ys hu h63 hbytes hbase
 unfold Oper.wp execOp
 simp only[ho,resolve,invoke,builtin,Sem.run_bind,Sem.run_pure,Result.andThen_ok,List.map_toArray,List.map_cons,List.map_nil,hs,hx,hr]
 exact h g cap w' h2 h3 h4
theorem wpList_append_sl (F:Flat R size f wf) {ops:Array Oper} {rest:List Oper} {o:Oper} {a:Act} {Q:Exit->Act->World->Prop} (hgd:o.guard=none) (s x:Operand) (t:TypeId)
  (ho:o.op=.call { callee:=.builtin .append,args:=#[s,x],argTypes:=#[t,t] })
  (base:Nat) (e:TypeId) (i:TypeInfo) (z:Value) (bytes:Nat) (ht:P.underlying t=some (.slice e)) (hi:P.info? e=some i) (hz:i.zero=some z)
  (hsize:i.size=size) (hby:i.bytes=bytes) (hzs:z.cells.size=size)
  (g0 c0 n:Nat) (xs:List Value) (hs:a.eval s=.slice (some ⟨g0,0,none⟩) n c0) (hown:w.ownsRow base e size (.slice (some ⟨g0,0,none⟩) n c0) n xs)
  (lo:Nat) (u:Value) (ys:List α) (hx:a.eval x=u) (hu:Sl R size lo w u ys)
  (h63:n+ys.length<=maxLen) (hbytes:(n+ys.length)*bytes<=140737488355328) (hbase:base<=w.heap.size)
  (h:∀g cap w',w'.ownsRow base e size (.slice (some ⟨g,0,none⟩) (n+ys.length) cap) (n+ys.length) (xs++rowsOf f ys)->w.grownBy w' (some g0)->(g=g0\/g=w.heap.size)->wpList P ops Q rest (a.put o.dst (.slice (some ⟨g,0,none⟩) (n+ys.length) cap)) w'):wpList P ops Q (o :: rest) a w:=
 wpList_plain hgd fun _ hK=>wp_append_sl w F s x t ho base e i z bytes ht hi hz hsize hby hzs g0 c0 n xs hs hown lo u ys hx hu h63 hbytes hbase fun g cap w' h2 h3 h4=>hK _ _ (h g cap w' h2 h3 h4)
theorem step_append_sl (F:Flat R size f wf) {ops:Array Oper} {o:Oper} {a:Act} {K:Act->World->Prop} {Q:Exit->Act->World->Prop} {E:Prop} (hgd:o.guard=none) (s x:Operand) (t:TypeId)
  (ho:o.op=.call { callee:=.builtin .append,args:=#[s,x],argTypes:=#[t,t] })
  (base:Nat) (e:TypeId) (i:TypeInfo) (z:Value) (bytes:Nat) (ht:P.underlying t=some (.slice e)) (hi:P.info? e=some i) (hz:i.zero=some z)
  (hsize:i.size=size) (hby:i.bytes=bytes) (hzs:z.cells.size=size)
  (g0 c0 n:Nat) (xs:List Value) (hs:a.eval s=.slice (some ⟨g0,0,none⟩) n c0) (hown:w.ownsRow base e size (.slice (some ⟨g0,0,none⟩) n c0) n xs)
  (lo:Nat) (u:Value) (ys:List α) (hx:a.eval x=u) (hu:Sl R size lo w u ys)
  (h63:n+ys.length<=maxLen) (hbytes:(n+ys.length)*bytes<=140737488355328) (hbase:base<=w.heap.size)
  (h:∀g cap w',w'.ownsRow base e size (.slice (some ⟨g,0,none⟩) (n+ys.length) cap) (n+ys.length) (xs++rowsOf f ys)->w.grownBy w' (some g0)->(g=g0\/g=w.heap.size)->K (a.put o.dst (.slice (some ⟨g,0,none⟩) (n+ys.length) cap)) w') :
  if Region.wanted o (yielded ops a.tmps)=true then Oper.wp P o a w K Q else E:=by
 have hw:Region.wanted o (yielded ops a.tmps)=true:=by simp[Region.wanted,hgd]
 rw[if_pos hw]
 exact wp_append_sl w F s x t ho base e i z bytes ht hi hz hsize hby hzs g0 c0 n xs hs hown lo u ys hx hu h63 hbytes hbase h
end
theorem own_empty_at {W:World} {base:Nat} {e:TypeId} {size g:Nat} (h:W.heap[g]? = some (.cells #[] e (0,0))) (hb:base<=g):W.ownsRow base e size (.slice (some ⟨g,0,none⟩) 0 0) 0 []:=
 ⟨by simp,.inr ⟨g,0,#[],rfl,hb,h,Nat.le_refl _,Nat.zero_le _,by simp,by simp⟩⟩
/-! ### Boxes that may be written -/
theorem Wr.box (w:World) (cs:Array Value) (t:TypeId):Wr (w.alloc (.cells cs t)) w.heap.size 0 cs.size:=fun j hj=>by
 refine⟨cs[j],?_,?_⟩
 ·rw[Nat.zero_add,Go.Proofs.YtkikkfjmggobpaaGreat.cell_alloc_new',Array.getElem?_eq_getElem hj]
 ·have h:=heap_alloc_new w (.cells cs t)
  unfold World.frozen?
  dsimp only
  rw[h]
  simp
theorem Wr.frz {w:World} {b N:Nat} (h:Wr w b 0 N) (j:Nat) (hj:j<N):w.frozen? ⟨b,j,none⟩=false:=by
 obtain⟨c,_,h2⟩:=h j hj
 rwa [Nat.zero_add]at h2
theorem Wr.frz0 {w:World} {b N:Nat} (h:Wr w b 0 N) (hj:0<N):w.frozen? ⟨b,0,none⟩=false:=h.frz 0 hj
/-! ### The flat elements -/
def intRow (n:Int):List Value:=[.int .i64 n]
def strRow (s:ByteArray):List Value:=[.string s]
theorem flatInt:Flat IntR 1 intRow I64:=⟨fun h=>h,fun h _ _=>⟨rfl,h⟩,fun _=>rfl,fun _ u hu=>by simp[intRow]at hu;subst hu;rfl,by decide⟩
theorem flatStr:Flat StrR 1 strRow StrOk:=⟨fun h=>h,fun h _ _=>⟨rfl,h⟩,fun _=>rfl,fun _ u hu=>by simp[strRow]at hu;subst hu;rfl,by decide⟩
end Go.Proofs.YtkikkfjmggobpaaGreat
