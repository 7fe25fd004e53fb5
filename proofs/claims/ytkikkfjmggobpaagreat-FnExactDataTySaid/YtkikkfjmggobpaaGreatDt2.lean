/- Parts of the proof, merged: Un0, Within, Word, Con, Shape, Find, Name, Name2. -/
import Derived.Test.YtkikkfjmggobpaaGreatRows
import Derived.Shelf.Abstract
import Derived.Test.YtkikkfjmggobpaaGreatDt1
namespace Go.Proofs.YtkikkfjmggobpaaGreat
open Go.RowKit
set_option linter.unusedVariables false
set_option linter.unusedSimpArgs false
inductive TyT where
 |v (n:Int)
 |c0 (s:ByteArray)
 |c1 (s:ByteArray) (a:TyT)
 |c2 (s:ByteArray) (a b:TyT)
def flatY:TyT->List GTyItem
 |.v n=>[⟨n,⟨#[]⟩,0⟩]
 |.c0 s=>[⟨0,s,0⟩]
 |.c1 s a=>⟨0,s,1⟩ :: flatY a
 |.c2 s a b=>⟨0,s,2⟩ :: (flatY a++flatY b)
def szY:TyT->Nat
 |.v _=>1
 |.c0 _=>1
 |.c1 _ a=>szY a+1
 |.c2 _ a b=>szY a+szY b+1
theorem flatY_len:∀t,(flatY t).length=szY t
 |.v _=>rfl
 |.c0 _=>rfl
 |.c1 _ a=>by simp[flatY,szY,flatY_len a]
 |.c2 _ a b=>by simp[flatY,szY,flatY_len a,flatY_len b]
theorem szY_pos (t:TyT):0<szY t:=by cases t<;>simp[szY]
def occY (n:Int):TyT->Bool
 |.v k=>n == k
 |.c0 _=>false
 |.c1 _ a=>occY n a
 |.c2 _ a b=>occY n a||occY n b
abbrev Sbs:=List (Int × TyT)
def getS:Sbs->Int->Option TyT
 |[],_=>none
 |(k,t) :: l,n=>if k=n then some t else getS l n
def subY (σ:Sbs):TyT->TyT
 |.v n=>(getS σ n).getD (.v n)
 |.c0 s=>.c0 s
 |.c1 s a=>.c1 s (subY σ a)
 |.c2 s a b=>.c2 s (subY σ a) (subY σ b)
def insS (n:Int) (u:TyT):Sbs->Sbs
 |[]=>[(n,u)]
 |p :: l=>if n<p.1 then (n,u) :: p :: l else p :: insS n u l
def mapS (n:Int) (u:TyT) (σ:Sbs):Sbs:=σ.map fun p=>(p.1,subY [(n,u)] p.2)
def bindY (σ:Sbs) (n:Int) (u:TyT):Int × Sbs:=
 if occY n u=true then (3,[]) else if (insS n u (mapS n u σ)).any (fun p=>decide (200<szY p.2))=true then (4,[]) else (0,insS n u (mapS n u σ))
def unifyF:Nat->TyT->TyT->Sbs->Option (Int × Sbs)
 |0,_,_,_=>none
 |f+1,x,y,σ=>match subY σ x,subY σ y with
  |.v a,.v b=>if a=b then some (0,σ) else if a<b then some (bindY σ b (.v a)) else some (bindY σ a (.v b))
  |.v a,t=>some (bindY σ a t)
  |t,.v b=>some (bindY σ b t)
  |.c0 s,.c0 s'=>if s=s' then some (0,σ) else some (2,[])
  |.c1 s a,.c1 s' a'=>if s=s' then unifyF f a a' σ else some (2,[])
  |.c2 s a b,.c2 s' a' b'=>if s=s' then (match unifyF f a a' σ with
    |none=>none
    |some (c,τ)=>if c=0 then unifyF f b b' τ else some (c,[])) else some (2,[])
  |_,_=>some (2,[])
theorem unifyF_mono:∀ (f:Nat) (x y:TyT) (σ:Sbs) (r:Int × Sbs),unifyF f x y σ=some r->unifyF (f+1) x y σ=some r
 |0,x,y,σ,r,h=>by simp[unifyF]at h
 |f+1,x,y,σ,r,h=>by
  have ih:=unifyF_mono f
  unfold unifyF at h ⊢
  generalize subY σ x=X at *
  generalize subY σ y=Y at *
  cases X<;>cases Y<;>dsimp only at h ⊢<;>try exact h
  ·split at h
   ·rename_i hs;rw[if_pos hs];exact ih _ _ _ _ h
   ·rename_i hs;rw[if_neg hs];exact h
  ·rename_i s a b s' a' b'
   split at h
   ·rename_i hs
    rw[if_pos hs]
    cases h1:unifyF f a a' σ with
    |none=>rw[h1]at h;simp at h
    |some q=>
     obtain⟨c,τ⟩:=q
     rw[h1]at h
     rw[ih _ _ _ _ h1]
     dsimp only at h ⊢
     split at h
     ·rename_i hc;rw[if_pos hc];exact ih _ _ _ _ h
     ·rename_i hc;rw[if_neg hc];exact h
   ·rename_i hs;rw[if_neg hs];exact h
theorem unifyF_le {f g:Nat} (hg:f<=g) {x y:TyT} {σ:Sbs} {r:Int × Sbs} (h:unifyF f x y σ=some r):unifyF g x y σ=some r:=by
 induction g with
 |zero=>obtain rfl:f=0:=(by omega);exact h
 |succ g ih=>
  rcases Nat.lt_or_ge f (g+1) with h1|h1
  ·exact unifyF_mono _ _ _ _ _ (ih (by omega))
  ·obtain rfl:f=g+1:=by omega
   exact h
/-! ### Substitutions -/
theorem getS_some:∀ {σ:Sbs} {n:Int} {t:TyT},getS σ n=some t->(n,t)∈σ
 |[],n,t,h=>by simp[getS]at h
 |(k,u) :: l,n,t,h=>by
  unfold getS at h
  split at h
  ·rename_i e;subst e;obtain rfl:=Option.some.inj h;simp
  ·exact List.mem_cons_of_mem _ (getS_some h)
theorem getS_none:∀ {σ:Sbs} {n:Int},getS σ n=none ↔ ∀p∈σ,p.1≠n
 |[],n=>by simp[getS]
 |(k,u) :: l,n=>by
  unfold getS
  split
  ·rename_i e;constructor
   ·intro h;cases h
   ·intro h;exact absurd e (h (k,u) (by simp))
  ·rename_i e
   rw[getS_none]
   constructor
   ·intro h p hp
    rcases List.mem_cons.1 hp with rfl|hp
    ·exact e
    ·exact h p hp
   ·intro h p hp;exact h p (List.mem_cons_of_mem _ hp)
theorem subY_id {σ:Sbs} : ∀t:TyT,(∀n,occY n t=true->getS σ n=none)->subY σ t=t
 |.v n,h=>by unfold subY;rw[h n (by simp[occY])];rfl
 |.c0 s,_=>rfl
 |.c1 s a,h=>by rw[subY,subY_id a h]
 |.c2 s a b,h=>by rw[subY,subY_id a fun n hn=>h n (by simp[occY,hn]),subY_id b fun n hn=>h n (by simp[occY,hn])]
theorem occ_sub {σ:Sbs} {n:Int} : ∀t:TyT,occY n (subY σ t)=true->(occY n t=true/\getS σ n=none)\/∃k u,occY k t=true/\getS σ k=some u/\occY n u=true
 |.v k,h=>by
  unfold subY at h
  cases hg:getS σ k with
  |none=>
   rw[hg]at h
   simp only[Option.getD_none,occY,beq_iff_eq]at h
   subst h
   exact .inl ⟨by simp[occY],hg⟩
  |some u=>rw[hg]at h;exact .inr ⟨k,u,by simp[occY],hg,h⟩
 |.c0 s,h=>by simp[subY,occY]at h
 |.c1 s a,h=>occ_sub a h
 |.c2 s a b,h=>by
  simp only[subY,occY,Bool.or_eq_true]at h
  rcases h with h|h
  ·rcases occ_sub a h with h1|⟨k,u,h1,h2⟩
   ·exact .inl ⟨by simp[occY,h1.1],h1.2⟩
   ·exact .inr ⟨k,u,by simp[occY,h1],h2⟩
  ·rcases occ_sub b h with h1|⟨k,u,h1,h2⟩
   ·exact .inl ⟨by simp[occY,h1.1],h1.2⟩
   ·exact .inr ⟨k,u,by simp[occY,h1],h2⟩
theorem sz_sub {σ:Sbs} (h:∀p∈σ,szY p.2<=200):∀t,szY (subY σ t)<=200*szY t
 |.v n=>by
  unfold subY
  cases hg:getS σ n with
  |none=>simp[szY]
  |some u=>have:=h _ (getS_some hg);simp[szY];exact this
 |.c0 s=>by simp[subY,szY]
 |.c1 s a=>by have:=sz_sub h a;simp only[subY,szY];omega
 |.c2 s a b=>by have:=sz_sub h a;have:=sz_sub h b;simp only[subY,szY];omega
structure GoodS (N:Int) (σ:Sbs):Prop where
 srt:σ.Pairwise fun p q=>p.1<q.1
 dom:∀p∈σ,0<=p.1/\p.1<N
 rng:∀p∈σ,∀n,occY n p.2=true->(0<=n/\n<N)/\getS σ n=none
 sz:∀p∈σ,szY p.2<=200
theorem GoodS.nil (N:Int):GoodS N []:=⟨List.Pairwise.nil,fun p h=>(by cases h),fun p h=>(by cases h),fun p h=>(by cases h)⟩
theorem GoodS.up {N M:Int} {σ:Sbs} (h:GoodS N σ) (hm:N<=M):GoodS M σ:=
 ⟨h.srt,fun p hp=>by have:=h.dom p hp;omega,fun p hp n hn=>by have:=h.rng p hp n hn;exact⟨by omega,this.2⟩,h.sz⟩
def VarsIn (N:Int) (t:TyT):Prop:=∀n,occY n t=true->0<=n/\n<N
theorem GoodS.vars {N:Int} {σ:Sbs} (h:GoodS N σ) {t:TyT} (ht:VarsIn N t):∀n,occY n (subY σ t)=true->(0<=n/\n<N)/\getS σ n=none:=fun n hn=>by
 rcases occ_sub t hn with⟨h1,h2⟩|⟨k,u,h1,h2,h3⟩
 ·exact⟨ht n h1,h2⟩
 ·exact h.rng _ (getS_some h2) n h3
theorem GoodS.idem {N:Int} {σ:Sbs} (h:GoodS N σ) (t:TyT):subY σ (subY σ t)=subY σ t:=subY_id _ fun n hn=>by
 rcases occ_sub t hn with⟨_,h2⟩|⟨k,u,h1,h2,h3⟩
 ·exact h2
 ·exact(h.rng _ (getS_some h2) n h3).2
theorem keys_len {N:Int} : ∀ (σ:Sbs) (lo:Int),σ.Pairwise (fun p q=>p.1<q.1)->(∀p∈σ,lo<=p.1/\p.1<N)->lo<=N->(σ.length:Int)<=N-lo
 |[],lo,_,_,h=>by simp;omega
 |p :: l,lo,hs,hd,h=>by
  rw[List.pairwise_cons]at hs
  have h1:=hd p (by simp)
  have:=keys_len (N:=N) l (p.1+1) hs.2 (fun q hq=>by have h3:p.1<q.1:=hs.1 q hq;have h4:=hd q (List.mem_cons_of_mem _ hq);omega) (by omega)
  rw[List.length_cons]
  omega
theorem GoodS.len {N:Int} {σ:Sbs} (h:GoodS N σ) (hN:0<=N):(σ.length:Int)<=N:=by
 have:=keys_len σ 0 h.srt h.dom hN
 omega
theorem insS_mem {n:Int} {u:TyT} : ∀ {l:Sbs} {p:Int × TyT},p∈insS n u l ↔ p=(n,u)\/p∈l
 |[],p=>by simp[insS]
 |q :: l,p=>by
  unfold insS
  split
  ·simp
  ·rw[List.mem_cons,insS_mem,List.mem_cons]
   constructor
   ·rintro (h|h|h)
    ·exact .inr (.inl h)
    ·exact .inl h
    ·exact .inr (.inr h)
   ·rintro (h|h|h)
    ·exact .inr (.inl h)
    ·exact .inl h
    ·exact .inr (.inr h)
theorem insS_len (n:Int) (u:TyT):∀l:Sbs,(insS n u l).length=l.length+1
 |[]=>rfl
 |q :: l=>by
  unfold insS
  split
  ·simp
  ·rw[List.length_cons,insS_len,List.length_cons]
theorem insS_srt {n:Int} {u:TyT} : ∀ {l:Sbs},l.Pairwise (fun p q=>p.1<q.1)->(∀p∈l,p.1≠n)->(insS n u l).Pairwise fun p q=>p.1<q.1
 |[],_,_=>by simp[insS]
 |q :: l,hs,hn=>by
  rw[List.pairwise_cons]at hs
  unfold insS
  split
  ·rename_i h
   rw[List.pairwise_cons]
   refine⟨fun p hp=>?_,List.pairwise_cons.2 hs⟩
   rcases List.mem_cons.1 hp with rfl|hp
   ·exact h
   ·have h3:q.1<p.1:=hs.1 p hp;show n<p.1;omega
  ·rename_i h
   rw[List.pairwise_cons]
   have hq:=hn q (by simp)
   refine⟨fun p hp=>?_,insS_srt hs.2 fun p hp=>hn p (List.mem_cons_of_mem _ hp)⟩
   rcases insS_mem.1 hp with rfl|hp
   ·show q.1<n;omega
   ·exact hs.1 p hp
theorem mapS_mem {n:Int} {u:TyT} {σ:Sbs} {p:Int × TyT} (h:p∈mapS n u σ):∃q∈σ,p=(q.1,subY [(n,u)] q.2):=by
 obtain⟨q,hq,rfl⟩:=List.mem_map.1 h
 exact⟨q,hq,rfl⟩
theorem getS_one {n m:Int} {u:TyT} : getS [(n,u)] m=if n=m then some u else none:=by simp[getS]
theorem bindY_good {N:Int} {σ τ:Sbs} {n:Int} {u:TyT} {c:Int} (hσ:GoodS N σ) (hn:(0<=n/\n<N)/\getS σ n=none) (hu:∀m,occY m u=true->(0<=m/\m<N)/\getS σ m=none) (h:bindY σ n u=(c,τ)) (hc:c=0) :
  GoodS N τ/\τ.length=σ.length+1/\τ=insS n u (mapS n u σ)/\occY n u=false:=by
 unfold bindY at h
 split at h
 ·simp only[Prod.mk.injEq]at h;omega
 ·rename_i ho
  split at h
  ·simp only[Prod.mk.injEq]at h;omega
  ·rename_i hz
   obtain rfl:insS n u (mapS n u σ)=τ:=(Prod.mk.inj h).2
   have ho' : occY n u=false:=by simpa using ho
   have hk:∀p∈mapS n u σ,p.1≠n:=fun p hp=>by
    obtain⟨q,hq,rfl⟩:=mapS_mem hp
    exact getS_none.1 hn.2 q hq
   have hlen:(insS n u (mapS n u σ)).length=σ.length+1:=by rw[insS_len];unfold mapS;rw[List.length_map]
   have hget:∀m,m≠n->getS σ m=none->getS (insS n u (mapS n u σ)) m=none:=fun m h1 h2=>getS_none.2 fun p hp=>by
    rcases insS_mem.1 hp with rfl|hp
    ·exact fun e=>h1 e.symm
    ·obtain⟨q,hq,rfl⟩:=mapS_mem hp
     exact getS_none.1 h2 q hq
   refine⟨⟨?_,fun p hp=>?_,fun p hp m hm=>?_,fun p hp=>?_⟩,hlen,rfl,ho'⟩
   ·refine insS_srt ?_ hk
    unfold mapS
    rw[List.pairwise_map]
    exact hσ.srt
   ·rcases insS_mem.1 hp with rfl|hp
    ·exact hn.1
    ·obtain⟨q,hq,rfl⟩:=mapS_mem hp
     exact hσ.dom q hq
   ·rcases insS_mem.1 hp with rfl|hp
    ·have h1:=hu m hm
     exact⟨h1.1,hget m (fun e=>by subst e;rw[ho']at hm;cases hm) h1.2⟩
    ·obtain⟨q,hq,rfl⟩:=mapS_mem hp
     dsimp only at hm
     rcases occ_sub q.2 hm with⟨h1,h2⟩|⟨k,w,h1,h2,h3⟩
     ·have h4:=hσ.rng q hq m h1
      rw[getS_one]at h2
      exact⟨h4.1,hget m (fun e=>by rw[if_pos e.symm]at h2;cases h2) h4.2⟩
     ·rw[getS_one]at h2
      split at h2
      ·obtain rfl:=Option.some.inj h2
       have h5:=hu m h3
       exact⟨h5.1,hget m (fun e=>by subst e;rw[ho']at h3;cases h3) h5.2⟩
      ·cases h2
   ·have:=List.any_eq_false.1 (by simpa using hz:(insS n u (mapS n u σ)).any (fun p=>decide (200<szY p.2))=false) p hp
    simp at this
    omega
def ExtS (σ τ:Sbs):Prop:=∀t,subY τ (subY σ t)=subY τ t
theorem ExtS.refl {N:Int} {σ:Sbs} (h:GoodS N σ):ExtS σ σ:=h.idem
theorem ExtS.trans {σ τ ρ:Sbs} (h1:ExtS σ τ) (h2:ExtS τ ρ):ExtS σ ρ:=fun t=>by
 rw[<- h2 (subY σ t),h1 t,h2 t]
theorem getS_ins {n:Int} {u:TyT} : ∀ {l:Sbs} {m:Int},(∀p∈l,p.1≠n)->getS (insS n u l) m=if n=m then some u else getS l m
 |[],m,_=>by simp[insS,getS]
 |(k,t) :: l,m,h=>by
  unfold insS
  split
  ·rfl
  ·have hk:k≠n:=h (k,t) (by simp)
   unfold getS
   rw[getS_ins fun p hp=>h p (List.mem_cons_of_mem _ hp)]
   by_cases e:k=m
   ·rw[if_pos e,if_pos e,if_neg (by omega)]
   ·rw[if_neg e,if_neg e]
theorem getS_map {n:Int} {u:TyT} : ∀ {σ:Sbs} {m:Int},getS (mapS n u σ) m=(getS σ m).map (subY [(n,u)])
 |[],m=>rfl
 |(k,t) :: l,m=>by
  show getS ((k,subY [(n,u)] t) :: mapS n u l) m=_
  unfold getS
  rw[getS_map]
  split<;>rfl
theorem sub_bind {N:Int} {σ:Sbs} {n:Int} {u:TyT} (hσ:GoodS N σ) (hn:getS σ n=none) (hu:∀m,occY m u=true->getS σ m=none) (ho:occY n u=false):∀t,subY (insS n u (mapS n u σ)) t=subY [(n,u)] (subY σ t)
 |.v m=>by
  have hk:∀p∈mapS n u σ,p.1≠n:=fun p hp=>by
   obtain⟨q,hq,rfl⟩:=mapS_mem hp
   exact getS_none.1 hn q hq
  simp only[subY]
  rw[getS_ins hk,getS_map]
  by_cases e:n=m
  ·subst e
   rw[if_pos rfl,hn]
   simp[subY,getS]
  ·rw[if_neg e]
   cases hg:getS σ m with
   |none=>simp[subY,getS,e]
   |some w=>rfl
 |.c0 s=>rfl
 |.c1 s a=>by simp only[subY];rw[sub_bind hσ hn hu ho a]
 |.c2 s a b=>by simp only[subY];rw[sub_bind hσ hn hu ho a,sub_bind hσ hn hu ho b]
theorem bind_ext {N:Int} {σ:Sbs} {n:Int} {u:TyT} (hσ:GoodS N σ) (hn:getS σ n=none) (hu:∀m,occY m u=true->getS σ m=none) (ho:occY n u=false):ExtS σ (insS n u (mapS n u σ)):=fun t=>by
 rw[sub_bind hσ hn hu ho,sub_bind hσ hn hu ho,hσ.idem]
theorem unify_total {N:Int} (hN:0<=N):∀ (m n:Nat) (x y:TyT) (σ:Sbs),GoodS N σ->VarsIn N x->VarsIn N y->N-σ.length<=m->szY (subY σ x)<=n->
  ∃f c τ,unifyF f x y σ=some (c,τ)/\(c=0->GoodS N τ/\ExtS σ τ/\(τ=σ\/σ.length<τ.length)):=by
 intro m
 induction m with
 |zero=>?_
 |succ m ihm=>?_
 all_goals
  intro n
  induction n with
  |zero=>intro x y σ _ _ _ _ h;have:=szY_pos (subY σ x);omega
  |succ n ihn=>?_
  intro x y σ hσ hx hy hm hz
  have hX:=hσ.vars hx
  have hY:=hσ.vars hy
  have bnd:∀ (k:Int) (u:TyT),((0<=k/\k<N)/\getS σ k=none)->(∀j,occY j u=true->(0<=j/\j<N)/\getS σ j=none)->∃c τ,bindY σ k u=(c,τ)/\(c=0->GoodS N τ/\ExtS σ τ/\(τ=σ\/σ.length<τ.length)):=fun k u h1 h2=>by
   refine⟨(bindY σ k u).1,(bindY σ k u).2,rfl,fun hc=>?_⟩
   obtain⟨h3,h4,h5,h6⟩:=bindY_good (c:=(bindY σ k u).1) (τ:=(bindY σ k u).2) hσ h1 h2 rfl hc
   exact⟨h3,by rw[h5];exact bind_ext hσ h1.2 (fun j hj=>(h2 j hj).2) h6,.inr (by omega)⟩
  have hsame:(0:Int)=0->GoodS N σ/\ExtS σ σ/\(σ=σ\/σ.length<σ.length):=fun _=>⟨hσ,hσ.idem,.inl rfl⟩
  have herr:(2:Int)=0->GoodS N ([] : Sbs)/\ExtS σ []/\(([] : Sbs)=σ\/σ.length<([] : Sbs).length):=fun h=>by omega
  have hid:∀t,(∀j,occY j t=true->getS σ j=none)->subY σ t=t:=fun t h=>subY_id t h
  have step:∀ (r:Nat->Option (Int × Sbs)),(∀f,unifyF (f+1) x y σ=r f)->(∃f c τ,r f=some (c,τ)/\(c=0->GoodS N τ/\ExtS σ τ/\(τ=σ\/σ.length<τ.length)))->∃f c τ,unifyF f x y σ=some (c,τ)/\(c=0->GoodS N τ/\ExtS σ τ/\(τ=σ\/σ.length<τ.length)):=fun r h1 ⟨f,c,τ,h2,h3⟩=>⟨f+1,c,τ,by rw[h1 f];exact h2,h3⟩
  cases eX:subY σ x<;>cases eY:subY σ y<;>rw[eX]at hX hz<;>rw[eY]at hY
  case v.v a b=>
   have ha:=hX a (by simp[occY])
   have hb:=hY b (by simp[occY])
   by_cases e:a=b
   ·exact step (fun _=>some (0,σ)) (fun f=>by unfold unifyF;rw[eX,eY];dsimp only;rw[if_pos e]) ⟨0,0,σ,rfl,hsame⟩
   ·by_cases e2:a<b
    ·obtain⟨c,τ,h1,h2⟩:=bnd b (.v a) hb (fun j hj=>hX j hj)
     exact step (fun _=>some (bindY σ b (.v a))) (fun f=>by unfold unifyF;rw[eX,eY];dsimp only;rw[if_neg e,if_pos e2]) ⟨0,c,τ,by rw[h1],h2⟩
    ·obtain⟨c,τ,h1,h2⟩:=bnd a (.v b) ha (fun j hj=>hY j hj)
     exact step (fun _=>some (bindY σ a (.v b))) (fun f=>by unfold unifyF;rw[eX,eY];dsimp only;rw[if_neg e,if_neg e2]) ⟨0,c,τ,by rw[h1],h2⟩
  case v.c0 a s=>obtain⟨c,τ,h1,h2⟩:=bnd a _ (hX a (by simp[occY])) hY;exact step (fun _=>some (bindY σ a (.c0 s))) (fun f=>by unfold unifyF;rw[eX,eY]) ⟨0,c,τ,by rw[h1],h2⟩
  case v.c1 a s t=>obtain⟨c,τ,h1,h2⟩:=bnd a _ (hX a (by simp[occY])) hY;exact step (fun _=>some (bindY σ a (.c1 s t))) (fun f=>by unfold unifyF;rw[eX,eY]) ⟨0,c,τ,by rw[h1],h2⟩
  case v.c2 a s t t'=>obtain⟨c,τ,h1,h2⟩:=bnd a _ (hX a (by simp[occY])) hY;exact step (fun _=>some (bindY σ a (.c2 s t t'))) (fun f=>by unfold unifyF;rw[eX,eY]) ⟨0,c,τ,by rw[h1],h2⟩
  case c0.v s b=>obtain⟨c,τ,h1,h2⟩:=bnd b _ (hY b (by simp[occY])) hX;exact step (fun _=>some (bindY σ b (.c0 s))) (fun f=>by unfold unifyF;rw[eX,eY]) ⟨0,c,τ,by rw[h1],h2⟩
  case c1.v s t b=>obtain⟨c,τ,h1,h2⟩:=bnd b _ (hY b (by simp[occY])) hX;exact step (fun _=>some (bindY σ b (.c1 s t))) (fun f=>by unfold unifyF;rw[eX,eY]) ⟨0,c,τ,by rw[h1],h2⟩
  case c2.v s t t' b=>obtain⟨c,τ,h1,h2⟩:=bnd b _ (hY b (by simp[occY])) hX;exact step (fun _=>some (bindY σ b (.c2 s t t'))) (fun f=>by unfold unifyF;rw[eX,eY]) ⟨0,c,τ,by rw[h1],h2⟩
  case c0.c1=>exact step (fun _=>some (2,[])) (fun f=>by unfold unifyF;rw[eX,eY]) ⟨0,2,[],rfl,herr⟩
  case c0.c2=>exact step (fun _=>some (2,[])) (fun f=>by unfold unifyF;rw[eX,eY]) ⟨0,2,[],rfl,herr⟩
  case c1.c0=>exact step (fun _=>some (2,[])) (fun f=>by unfold unifyF;rw[eX,eY]) ⟨0,2,[],rfl,herr⟩
  case c1.c2=>exact step (fun _=>some (2,[])) (fun f=>by unfold unifyF;rw[eX,eY]) ⟨0,2,[],rfl,herr⟩
  case c2.c0=>exact step (fun _=>some (2,[])) (fun f=>by unfold unifyF;rw[eX,eY]) ⟨0,2,[],rfl,herr⟩
  case c2.c1=>exact step (fun _=>some (2,[])) (fun f=>by unfold unifyF;rw[eX,eY]) ⟨0,2,[],rfl,herr⟩
  case c0.c0 s s'=>
   by_cases e:s=s'
   ·exact step (fun _=>some (0,σ)) (fun f=>by unfold unifyF;rw[eX,eY];dsimp only;rw[if_pos e]) ⟨0,0,σ,rfl,hsame⟩
   ·exact step (fun _=>some (2,[])) (fun f=>by unfold unifyF;rw[eX,eY];dsimp only;rw[if_neg e]) ⟨0,2,[],rfl,herr⟩
  case c1.c1 s a s' a'=>
   by_cases e:s=s'
   ·have ha:subY σ a=a:=hid a fun j hj=>(hX j hj).2
    refine step (fun f=>unifyF f a a' σ) (fun f=>by rw[unifyF,eX,eY];dsimp only;rw[if_pos e]) ?_
    exact ihn a a' σ hσ (fun j hj=>(hX j hj).1) (fun j hj=>(hY j hj).1) hm (by rw[ha];simp only[szY]at hz;omega)
   ·exact step (fun _=>some (2,[])) (fun f=>by unfold unifyF;rw[eX,eY];dsimp only;rw[if_neg e]) ⟨0,2,[],rfl,herr⟩
  case c2.c2 s a b s' a' b'=>
   by_cases e:s=s'
   ·have ha:subY σ a=a:=hid a fun j hj=>(hX j (by simp[occY,hj])).2
    have hb:subY σ b=b:=hid b fun j hj=>(hX j (by simp[occY,hj])).2
    refine step (fun f=>match unifyF f a a' σ with
     |none=>none
     |some (c,τ)=>if c=0 then unifyF f b b' τ else some (c,[])) (fun f=>by rw[unifyF,eX,eY];dsimp only;rw[if_pos e]) ?_
    obtain⟨f1,c1,τ1,h1,h2⟩:=ihn a a' σ hσ (fun j hj=>(hX j (by simp[occY,hj])).1) (fun j hj=>(hY j (by simp[occY,hj])).1) hm (by rw[ha];simp only[szY]at hz;omega)
    by_cases hc:c1=0
    ·obtain⟨g1,g2,g3⟩:=h2 hc
     have hvb:VarsIn N b:=fun j hj=>(hX j (by simp[occY,hj])).1
     have hvb' : VarsIn N b':=fun j hj=>(hY j (by simp[occY,hj])).1
     have h3:∃f2 c2 τ2,unifyF f2 b b' τ1=some (c2,τ2)/\(c2=0->GoodS N τ2/\ExtS τ1 τ2/\(τ2=τ1\/τ1.length<τ2.length)):=by
      rcases g3 with g3|g3
      ·rw[g3]
       exact ihn b b' σ hσ hvb hvb' hm (by rw[hb];simp only[szY]at hz;omega)
      ·first
       |(have:=g1.len hN;omega)
       |exact ihm _ b b' τ1 g1 hvb hvb' (by omega) (Nat.le_refl _)
     obtain⟨f2,c2,τ2,h4,h5⟩:=h3
     refine⟨max f1 f2,c2,τ2,?_,fun h=>?_⟩
     ·try dsimp only
      rw[unifyF_le (Nat.le_max_left f1 f2) h1]
      dsimp only
      rw[if_pos hc,unifyF_le (Nat.le_max_right f1 f2) h4]
     ·obtain⟨k1,k2,k3⟩:=h5 h
      refine⟨k1,g2.trans k2,?_⟩
      rcases g3 with rfl|g3<;>rcases k3 with rfl|k3
      ·exact .inl rfl
      ·exact .inr k3
      ·exact .inr g3
      ·exact .inr (by omega)
    ·refine⟨f1,c1,[],?_,fun h=>absurd h hc⟩
     try dsimp only
     rw[h1]
     try dsimp only
     rw[if_neg hc]
   ·exact step (fun _=>some (2,[])) (fun f=>by unfold unifyF;rw[eX,eY];dsimp only;rw[if_neg e]) ⟨0,2,[],rfl,herr⟩
end Go.Proofs.YtkikkfjmggobpaaGreat
namespace Go.Proofs.YtkikkfjmggobpaaGreat
open Go.RowKit
set_option maxRecDepth 100000
set_option maxHeartbeats 16000000
set_option linter.unusedVariables false
set_option linter.unusedSimpArgs false
attribute [local go_sem] Ext.cell
theorem toList_empty:ByteArray.empty.toList=[]:=by rw[ByteArray.toList_eq];rfl
theorem isEmpty_iff (s:ByteArray):s.toList.isEmpty=true ↔ s=ByteArray.empty:=by
 rw[List.isEmpty_iff]
 constructor
 ·intro h
  exact(toList_eq s ByteArray.empty).1 (by rw[h,toList_empty])
 ·rintro rfl;exact toList_empty
def wrap63 (n:Int):Int:=(n+4611686018427387904) % 9223372036854775808-4611686018427387904
theorem wrap63_eq (n:Int):wrap63 n=n ↔ -4611686018427387904<=n/\n<=4611686018427387903:=by unfold wrap63;omega
theorem within_c (n lo hi:Int) (w:World) :
  Calls Tryz.prog 66 #[.int .i64 n,.int .i64 lo,.int .i64 hi] w fun e w'=>e=.returned (.bool (decide (lo<=n/\n<=hi)))/\w=w':=by
 go_enter Tryz.func66,Tryz.ntmps66
 go_wp2
 all_goals (go_returns;refine⟨?_,rfl⟩;simp_all)
 all_goals omega
theorem Wrap_c (n:Int) (h:I64 n) (w:World) :
  Calls Tryz.prog 49 #[.int .i64 n] w fun e w'=>e=.returned (.int .i64 (wrap63 n))/\w=w':=by
 obtain⟨h0,h1⟩:=h
 go_enter Tryz.func49,Tryz.ntmps49
 go_wp2
 go_returns
 refine⟨?_,rfl⟩
 show Ending.returned (Value.int .i64 (wrap64 (n*2) / 2))=_
 congr 2
 unfold wrap64 wrap63
 omega
def lowB (n:Int):Bool:=decide (97<=n/\n<=122)
def upB (n:Int):Bool:=decide (65<=n/\n<=90)
def digB (n:Int):Bool:=decide (48<=n/\n<=57)
def wordB (n:Int):Bool:=lowB n||upB n||digB n||decide (n=95)
def clsB (n:Int):Int:=if lowB n then 1 else if upB n then 2 else if digB n||decide (n=95) then 3 else 0
theorem clsB_zero (n:Int):decide (clsB n=0) = !wordB n:=by
 unfold clsB wordB
 cases lowB n<;>cases upB n<;>cases digB n<;>cases decide (n=95)<;>simp
theorem clsB_two (n:Int):decide (clsB n=2)=upB n:=by
 have:lowB n=true->upB n=false:=by unfold lowB upB;simp;omega
 unfold clsB
 cases h1:lowB n<;>cases h2:upB n<;>cases digB n<;>cases decide (n=95)<;>simp_all
theorem clsB_one (n:Int):decide (clsB n=1)=lowB n:=by
 unfold clsB
 cases h1:lowB n<;>cases h2:upB n<;>cases digB n<;>cases decide (n=95)<;>simp_all
theorem isLower_c (n:Int) (w:World):Calls Tryz.prog 146 #[.int .u8 n] w fun e w'=>e=.returned (.bool (lowB n))/\w=w':=by
 go_enter Tryz.func146,Tryz.ntmps146
 go_wp2
 all_goals (go_returns;refine⟨?_,rfl⟩;simp_all [lowB])
 all_goals omega
theorem isUpper_c (n:Int) (w:World):Calls Tryz.prog 173 #[.int .u8 n] w fun e w'=>e=.returned (.bool (upB n))/\w=w':=by
 go_enter Tryz.func173,Tryz.ntmps173
 go_wp2
 all_goals (go_returns;refine⟨?_,rfl⟩;simp_all [upB])
 all_goals omega
theorem isDigit_c (n:Int) (w:World):Calls Tryz.prog 183 #[.int .u8 n] w fun e w'=>e=.returned (.bool (digB n))/\w=w':=by
 go_enter Tryz.func183,Tryz.ntmps183
 go_wp2
 all_goals (go_returns;refine⟨?_,rfl⟩;simp_all [digB])
 all_goals omega
theorem isWord_c (n:Int) (w:World):Calls Tryz.prog 172 #[.int .u8 n] w fun e w'=>e=.returned (.bool (wordB n))/\w=w':=by
 have c1:=isLower_c n w
 have c2:=isUpper_c n w
 have c3:=isDigit_c n w
 unfold wordB
 generalize lowB n=b1 at *
 generalize upB n=b2 at *
 generalize digB n=b3 at *
 have h:(n == 95)=decide (n=95):=rfl
 cases hd:decide (n=95)<;>rw[hd]at h<;>cases b1<;>cases b2<;>cases b3
 all_goals
  clear hd
  go_enter Tryz.func172,Tryz.ntmps172
  go_wp2_with (first|(go_at_call 146;((with_reducible refine(c1).mono ?_);rintro e w1 ⟨rfl,rfl⟩))|(go_at_call 173;((with_reducible refine(c2).mono ?_);rintro e w1 ⟨rfl,rfl⟩))|(go_at_call 183;((with_reducible refine(c3).mono ?_);rintro e w1 ⟨rfl,rfl⟩)))
  go_returns
  exact⟨rfl,rfl⟩
theorem l01Class_c (n:Int) (w:World):Calls Tryz.prog 161 #[.int .u8 n] w fun e w'=>e=.returned (.int .i64 (clsB n))/\w=w':=by
 go_enter Tryz.func161,Tryz.ntmps161
 go_wp2
 all_goals (go_returns;refine⟨?_,rfl⟩;simp_all [clsB,lowB,upB,digB])
 all_goals (try (intros;omega))
 all_goals (try (rw[if_neg (by omega)]))
 all_goals (try (rw[if_neg (by omega)]))
 all_goals (try (rw[if_neg (by omega)]))
 all_goals (try (rw[if_pos (by omega)]))
def allW (l:List UInt8):Bool:=l.all fun c=>wordB c.toNat
theorem allW_take (s:ByteArray) (k:Nat) (h:k<s.size):allW (s.data.toList.take (k+1))=(allW (s.data.toList.take k)&&wordB s[k].toNat):=by
 have e:s.data.toList.take (k+1)=s.data.toList.take k ++ [s[k]]:=by
  rw[List.take_succ_eq_append_getElem (by simpa using h)];rfl
 rw[e]
 unfold allW
 rw[List.all_append]
 simp
theorem allW_full (s:ByteArray):s.data.toList.take s.size=s.data.toList:=List.take_of_length_le (by simp)
theorem allW_bad (s:ByteArray) (k:Nat) (h:k<s.size) (hb:wordB s[k].toNat=false):allW s.data.toList=false:=by
 have h1:=allW_take s k h
 rw[hb,Bool.and_false]at h1
 cases hA:allW s.data.toList with
 |false=>rfl
 |true=>
  exfalso
  unfold allW at h1 hA
  rw[List.all_eq_true]at hA
  have:(s.data.toList.take (k+1)).all (fun c=>wordB c.toNat)=true:=List.all_eq_true.2 fun x hx=>hA x (List.mem_of_mem_take hx)
  rw[this]at h1;cases h1
def wordOk (s:ByteArray):Bool:=allW s.data.toList&&decide (1<=(s.size:Int)/\(s.size:Int)<=12)
theorem wordOk_c (s:ByteArray) (hs:StrOk s) (w:World):Calls Tryz.prog 145 #[.string s] w fun e w'=>e=.returned (.bool (wordOk s))/\w=w':=by
 unfold StrOk at hs
 go_enter Tryz.func145,Tryz.ntmps145
 go_wp2_with fail
 go_loop [6] (fun i=>∃k:Nat,k<=s.size/\i=.int .i64 k/\Hid (allW (s.data.toList.take k)=true)) (fun i=>s.size-(intOf i).toNat)
 case atStart=>exact⟨0,Nat.zero_le _,rfl,rfl⟩
 case round=>
  obtain⟨k,hk,rfl,hK⟩:=hrel
  by_cases hlt:k<s.size
  ·have c1:=isWord_c (s[k].toNat:Int) w
   have h2:=kH (allW_take s k hlt)
   have h3:=kH (allW_bad s k hlt)
   generalize hq:wordB (s[k].toNat:Int)=q at *
   replace hq:=kH hq
   cases q with
   |true=>
    go_wp2_with (go_at_call 172;((with_reducible refine(c1).mono ?_);rintro e w1 ⟨rfl,rfl⟩))
    go_round
    case rel=>exact⟨k+1,by omega,by go_num,by show _=_;rw[h2.out,hK.out];rfl⟩
    case measure=>simp[intOf];omega
   |false=>
    go_wp2_with (go_at_call 172;((with_reducible refine(c1).mono ?_);rintro e w1 ⟨rfl,rfl⟩))
    go_returns
    exact⟨by unfold wordOk;rw[h3.out trivial];rfl,rfl⟩
  ·obtain rfl:k=s.size:=by omega
   go_wp2_with (go_at_call 66;((with_reducible refine(within_c _ _ _ _).mono ?_);rintro e w1 ⟨rfl,rfl⟩))
   go_returns
   exact⟨by unfold wordOk;rw[allW_full]at hK;rw[hK.out];simp,rfl⟩
def firstB (s:ByteArray):Int:=if h:0<s.size then (s[0]'h).toNat else 0
def word01 (s:ByteArray) (first:Int):Bool:=decide (1<=(s.size:Int)/\(s.size:Int)<=12)&&decide (clsB (firstB s)=first)&&allW s.data.toList
theorem l01Word_c (s:ByteArray) (fi:Int) (hs:StrOk s) (w:World):Calls Tryz.prog 129 #[.string s,.int .i64 fi] w fun e w'=>e=.returned (.bool (word01 s fi))/\w=w':=by
 unfold StrOk at hs
 by_cases h1:1<=s.size/\s.size<=12
 ·obtain⟨h1,h12⟩:=h1
  have h0:0<s.size:=by omega
  have h0' : (0:Int)<s.size:=by omega
  have d1:decide ((s.size:Int)<1)=false:=by simp;omega
  have d2:decide ((12:Int)<s.size)=false:=by simp;omega
  have hr:decide (1<=(s.size:Int)/\(s.size:Int)<=12)=true:=by simp;omega
  have hf:firstB s=(s[0]'h0).toNat:=by unfold firstB;rw[dif_pos h0]
  have c0:=l01Class_c ((s[0]'h0).toNat:Int) w
  by_cases hc:clsB ((s[0]'h0).toNat:Int)=fi
  ·have hw:word01 s fi=allW s.data.toList:=by unfold word01;rw[hr,hf,hc];simp
   rw[hc]at c0
   have d3:(fi != fi)=false:=by simp
   replace hw:=kH hw
   clear hc hf hr
   go_enter Tryz.func129,Tryz.ntmps129
   go_wp2_with (go_at_call 161;((with_reducible refine(c0).mono ?_);rintro e w1 ⟨rfl,rfl⟩))
   go_loop [5] (fun i=>∃k:Nat,k<=s.size/\i=.int .i64 k/\Hid (allW (s.data.toList.take k)=true)) (fun i=>s.size-(intOf i).toNat)
   case atStart=>exact⟨0,Nat.zero_le _,rfl,rfl⟩
   case round=>
    obtain⟨k,hk,rfl,hK⟩:=hrel
    by_cases hlt:k<s.size
    ·have c1:=l01Class_c (s[k].toNat:Int) w
     have h2:=kH (allW_take s k hlt)
     have h3:=kH (allW_bad s k hlt)
     have h4:=clsB_zero (s[k].toNat:Int)
     generalize hq:clsB (s[k].toNat:Int)=q at *
     generalize hq' : wordB (s[k].toNat:Int)=q' at *
     replace hq:=kH hq
     replace hq':=kH hq'
     have h5:(q == 0) = !q':=h4
     clear h4
     cases q' with
     |true=>
      have h6:(q == 0)=false:=h5
      clear h5
      go_wp2_with (go_at_call 161;((with_reducible refine(c1).mono ?_);rintro e w1 ⟨rfl,rfl⟩))
      go_round
      case rel=>exact⟨k+1,by omega,by go_num,by show _=_;rw[h2.out,hK.out];rfl⟩
      case measure=>simp[intOf];omega
     |false=>
      have h6:(q == 0)=true:=h5
      clear h5
      go_wp2_with (go_at_call 161;((with_reducible refine(c1).mono ?_);rintro e w1 ⟨rfl,rfl⟩))
      go_returns
      exact⟨by rw[hw.out,h3.out trivial];rfl,rfl⟩
    ·obtain rfl:k=s.size:=by omega
     go_wp2_with fail
     go_returns
     exact⟨by rw[hw.out];rw[allW_full]at hK;rw[hK.out];rfl,rfl⟩
  ·have hw:word01 s fi=false:=by unfold word01;rw[hf,decide_eq_false hc];simp
   have d3:(clsB ((s[0]'h0).toNat:Int) != fi)=true:=by simpa using hc
   replace hw:=kH hw
   clear hc hf hr
   generalize clsB ((s[0]'h0).toNat:Int)=q at *
   go_enter Tryz.func129,Tryz.ntmps129
   go_wp2_with (go_at_call 161;((with_reducible refine(c0).mono ?_);rintro e w1 ⟨rfl,rfl⟩))
   go_returns
   exact⟨by rw[hw.out];rfl,rfl⟩
 ·have hw:word01 s fi=false:=by unfold word01;rw[decide_eq_false (by omega)];rfl
  replace hw:=kH hw
  by_cases h0:s.size<1
  ·have d1:decide ((s.size:Int)<1)=true:=by simp;omega
   go_enter Tryz.func129,Tryz.ntmps129
   go_wp2_with fail
   go_returns
   exact⟨by rw[hw.out];rfl,rfl⟩
  ·have d1:decide ((s.size:Int)<1)=false:=by simp;omega
   have d2:decide ((12:Int)<s.size)=true:=by simp;omega
   clear h1 h0
   go_enter Tryz.func129,Tryz.ntmps129
   go_wp2_with fail
   go_returns
   exact⟨by rw[hw.out];rfl,rfl⟩
def conOk (s:ByteArray):Bool:=wordOk s&&upB (firstB s)
theorem ConOk_c (s:ByteArray) (hs:StrOk s) (w:World):Calls Tryz.prog 151 #[.string s] w fun e w'=>e=.returned (.bool (conOk s))/\w=w':=by
 have c1:=wordOk_c s hs w
 unfold StrOk at hs
 cases hw:wordOk s with
 |false=>
  rw[hw]at c1
  replace hw:=kH hw
  go_enter Tryz.func151,Tryz.ntmps151
  go_wp2_with (go_at_call 145;((with_reducible refine(c1).mono ?_);rintro e w1 ⟨rfl,rfl⟩))
  go_returns
  exact⟨by unfold conOk;rw[hw.out];rfl,rfl⟩
 |true=>
  rw[hw]at c1
  have h0:0<s.size:=by unfold wordOk at hw;simp at hw;omega
  have h0' : (0:Int)<s.size:=by omega
  have hf:firstB s=(s[0]'h0).toNat:=by unfold firstB;rw[dif_pos h0]
  replace hw:=kH hw
  replace hf:=kH hf
  go_enter Tryz.func151,Tryz.ntmps151
  go_wp2_with (first|(go_at_call 145;((with_reducible refine(c1).mono ?_);rintro e w1 ⟨rfl,rfl⟩))|(go_at_call 173;((with_reducible refine(isUpper_c _ _).mono ?_);rintro e w1 ⟨rfl,rfl⟩)))
  go_returns
  exact⟨by unfold conOk;rw[hw.out,hf.out];rfl,rfl⟩
theorem word01_two (s:ByteArray):word01 s 2=conOk s:=by
 unfold word01 conOk wordOk
 rw[clsB_two]
 cases decide (1<=(s.size:Int)/\(s.size:Int)<=12)<;>cases upB (firstB s)<;>cases allW s.data.toList<;>rfl
theorem specConOk_c (s:ByteArray) (hs:StrOk s) (w:World):Calls Tryz.prog 93 #[.string s] w fun e w'=>e=.returned (.bool (conOk s))/\w=w':=by
 rw[<- word01_two]
 go_enter Tryz.func93,Tryz.ntmps93
 go_wp2_with (go_at_call 129;((with_reducible refine(l01Word_c s 2 hs _).mono ?_);rintro e w1 ⟨rfl,rfl⟩))
 go_returns
 exact⟨rfl,rfl⟩
def sTrue:List UInt8:=[116,114,117,101]
def sFalse:List UInt8:=[102,97,108,115,101]
def sNil:List UInt8:=[91,93]
def sCons:List UInt8:=[58,58]
def conShape (s:ByteArray) (k:Int) (pair:Bool):Bool:=
 if (s.toList == sTrue||s.toList == sFalse||s.toList == sNil)=true then k == 0
 else if (s.toList == sCons)=true then (k == 1)&&pair
 else conOk s&&decide (k<=1)
theorem conShape_c (s:ByteArray) (k:Int) (pair:Bool) (hs:StrOk s) (w:World):Calls Tryz.prog 113 #[.string s,.int .i64 k,.bool pair] w fun e w'=>e=.returned (.bool (conShape s k pair))/\w=w':=by
 have c1:=ConOk_c s hs w
 unfold conShape
 cases e1:(s.toList == sTrue)<;>cases e2:(s.toList == sFalse)<;>cases e3:(s.toList == sNil)<;>cases e4:(s.toList == sCons)
 case false.false.false.false=>
  generalize conOk s=c at *
  unfold sTrue sFalse sNil sCons at *
  cases c
  all_goals
   go_enter Tryz.func113,Tryz.ntmps113
   go_wp2_with (go_at_call 151;((with_reducible refine(c1).mono ?_);rintro e w1 ⟨rfl,rfl⟩))
   go_returns
   exact⟨rfl,rfl⟩
 all_goals
  clear c1
  unfold sTrue sFalse sNil sCons at *
  cases e5:(k == 1)
 all_goals
  go_enter Tryz.func113,Tryz.ntmps113
  go_wp2_with fail
  go_returns
  exact⟨rfl,rfl⟩
theorem l04ConOk_c (s:ByteArray) (k:Int) (pair:Bool) (hs:StrOk s) (w:World):Calls Tryz.prog 50 #[.string s,.int .i64 k,.bool pair] w fun e w'=>e=.returned (.bool (conShape s k pair))/\w=w':=by
 have c1:=specConOk_c s hs w
 have x1:(s.toList == sCons)=true->(s.toList == sTrue)=false/\(s.toList == sFalse)=false/\(s.toList == sNil)=false:=by
  intro h
  rw[eq_of_beq h]
  decide
 unfold conShape
 cases e4:(s.toList == sCons)
 ·clear x1
  cases e1:(s.toList == sTrue)<;>cases e2:(s.toList == sFalse)<;>cases e3:(s.toList == sNil)
  case false.false.false=>
   generalize conOk s=c at *
   unfold sTrue sFalse sNil sCons at *
   cases c
   all_goals
    go_enter Tryz.func50,Tryz.ntmps50
    go_wp2_with (go_at_call 93;((with_reducible refine(c1).mono ?_);rintro e w1 ⟨rfl,rfl⟩))
    go_returns
    exact⟨rfl,rfl⟩
  all_goals
   clear c1
   unfold sTrue sFalse sNil sCons at *
   go_enter Tryz.func50,Tryz.ntmps50
   go_wp2_with fail
   go_returns
   exact⟨rfl,rfl⟩
 ·obtain⟨e1,e2,e3⟩:=x1 e4
  rw[e1,e2,e3]
  clear x1 c1
  unfold sTrue sFalse sNil sCons at *
  cases e5:(k == 1)
  all_goals
   go_enter Tryz.func50,Tryz.ntmps50
   go_wp2_with fail
   go_returns
   exact⟨rfl,rfl⟩
end Go.Proofs.YtkikkfjmggobpaaGreat
namespace Go.Proofs.YtkikkfjmggobpaaGreat
open Go.RowKit
def IdxPost {α:Type} (p:α->Bool) (xs:List α) (w:World) (e:Ending) (w' : World):Prop:=
 ∃n:Int,e=.returned (.int .i64 n)/\decide (0<=n)=xs.any p/\Below w.heap.size w w'
end Go.Proofs.YtkikkfjmggobpaaGreat
namespace Go.Proofs.YtkikkfjmggobpaaGreat
open Go.RowKit
set_option maxRecDepth 100000
set_option maxHeartbeats 16000000
set_option linter.unusedVariables false
set_option linter.unusedSimpArgs false
attribute [local go_sem] Ext.cell
theorem indexS_c (xs:List ByteArray) (v:ByteArray) (lo:Nat) (u:Value) (w:World) (hu:Sl StrR 1 lo w u xs) :
  Calls Tryz.prog 108 #[u,.string v] w (IdxPost (fun y=>v.toList == y.toList) xs w):=by
 obtain⟨ua,uc,rfl,ul,um,h0⟩:=hu
 replace h0:=kH h0
 obtain⟨m,hm⟩ : ∃m,m=xs.length:=⟨_,rfl⟩
 rw[<- hm]at ul ⊢
 replace hm:=kH hm
 go_enter Tryz.func108,Tryz.ntmps108
 go_wp2_with fail
 go_loopw [8] (fun i wr=>∃k:Nat,k<=m/\i=.int .i64 k/\Below w.heap.size w wr/\Hid (∀y∈xs.take k,(v.toList == y.toList)=false)) (fun i _=>m-(intOf i).toNat)
 case atStart=>exact⟨0,by omega,rfl,Below.refl _ _,fun y hy=>by simp at hy⟩
 case round=>
  obtain⟨k,hk,rfl,hw,hF⟩:=hrel
  by_cases hlt:k<m
  ·obtain⟨b1,o1,x,r,_,rfl,P1,⟨rfl,-⟩,r1⟩:=(h0.out.below StrR.good hw).get hm hlt
   have e0:wr.cell? ⟨b1,o1+k,none⟩=some (.string x):=by simpa using r1 0 _ rfl
   clear r1
   cases hq:(v.toList == x.toList) with
   |true=>
    go_wp2_with fail
    go_returns
    exact⟨k,rfl,by
     have:xs.any (fun y=>v.toList == y.toList)=true:=List.any_eq_true.2 ⟨x,List.mem_of_getElem? P1.out,by simpa using hq⟩
     rw[this];simp,hw⟩
   |false=>
    have hq':=kH hq
    go_wp2_with fail
    go_roundw
    case rel=>exact⟨k+1,by omega,by go_num,hw,by
     show ∀y∈xs.take (k+1),(v.toList == y.toList)=false
     rw[take_snoc' P1.out]
     intro y hy
     rcases List.mem_append.1 hy with h|h
     ·exact hF.out y h
     ·simp at h;subst h;exact hq'.out⟩
    case measure=>simp[intOf];omega
  ·obtain rfl:k=m:=by omega
   go_wp2_with fail
   go_returns
   exact⟨-1,rfl,by
    have hF:=hF.out
    rw[take_full hm]at hF
    have:xs.any (fun y=>v.toList == y.toList)=false:=List.any_eq_false.2 fun y hy=>by rw[hF y hy];simp
    rw[this];simp,hw⟩
theorem containsS_c (xs:List ByteArray) (v:ByteArray) (lo:Nat) (u:Value) (w:World) (hu:Sl StrR 1 lo w u xs) :
  Calls Tryz.prog 62 #[u,.string v] w fun e w'=>e=.returned (.bool (xs.any fun y=>v.toList == y.toList))/\Below w.heap.size w w':=by
 have hc:=indexS_c xs v lo u w hu
 replace hc:Calls Tryz.prog 108 #[u,.string v] w fun e w'=>∃n:Int,e=.returned (.int .i64 n)/\decide (0<=n)=(xs.any fun y=>v.toList == y.toList)/\Below w.heap.size w w':=hc
 generalize (xs.any fun y=>v.toList == y.toList)=q at *
 obtain⟨ua,uc,rfl⟩:=hu.form
 clear hu
 go_enter Tryz.func62,Tryz.ntmps62
 go_wp2_with (go_at_call 108;refine hc.mono ?_;rintro e w1 ⟨n,rfl,hn,hb⟩)
 go_returns
 exact⟨rfl,hb⟩
def kwB:List ByteArray:=[⟨#[108,101,116]⟩,⟨#[114,101,99]⟩,⟨#[105,110]⟩,⟨#[102,117,110]⟩,⟨#[105,102]⟩,⟨#[116,104,101,110]⟩,⟨#[101,108,115,101]⟩,⟨#[109,97,116,99,104]⟩,⟨#[119,105,116,104]⟩,⟨#[101,110,100]⟩,⟨#[116,121,112,101]⟩,⟨#[111,102]⟩,⟨#[114,97,105,115,101]⟩,⟨#[116,114,121]⟩,⟨#[114,101,102]⟩,⟨#[116,114,117,101]⟩,⟨#[102,97,108,115,101]⟩]
def isKw (s:ByteArray):Bool:=kwB.any fun y=>s.toList == y.toList
theorem kw_row (w:World) (T:TypeId):RowAt (w.alloc (.cells (kwB.map Value.string).toArray T)) w.heap.size 0 (kwB.map Value.string):=by
 have:=RowAt.box w (kwB.map Value.string).toArray T
 simpa using this
theorem kw_ok:∀y∈kwB,StrOk y:=by
 intro y hy
 have:y.size<=5:=by
  revert y
  decide
 unfold StrOk
 omega
theorem row_strs {w:World} {g:Nat} {xs:List ByteArray} (h:RowAt w g 0 (xs.map Value.string)) (hok:∀y∈xs,StrOk y) (cap:Nat) (hc:xs.length<=cap) (hm:cap<=9223372036854775807):Sl StrR 1 g w (.slice (some ⟨g,0,none⟩) xs.length cap) xs:=
 ⟨_,cap,rfl,hc,hm,fun _=>⟨g,0,Nat.le_refl _,rfl,fun i x hx=>⟨[.string x],⟨rfl,hok x (List.mem_of_getElem? hx)⟩,fun j c hj=>by
  cases j with
  |zero=>
   simp at hj;subst hj
   have:=h i (.string x) (by rw[List.getElem?_map,hx];rfl)
   simpa using this
  |succ j=>simp at hj⟩⟩⟩
theorem keywords_c (w:World):Calls Tryz.prog 147 #[] w fun e w'=>∃g,e=.returned (.slice (some ⟨g,0,none⟩) 17 17)/\Sl StrR 1 0 w' (.slice (some ⟨g,0,none⟩) 17 17) kwB/\Below w.heap.size w w':=by
 go_enter Tryz.func147,Tryz.ntmps147
 go_wp2_with fail
 go_returns
 refine⟨w.heap.size,rfl,?_,by go_grown⟩
 exact(row_strs (kw_row w 9) kw_ok 17 (by decide) (by omega)).mono StrR.good (Nat.zero_le _)
def nameOk (s:ByteArray):Bool:=(wordOk s&&lowB (firstB s)) && !isKw s
theorem word01_one (s:ByteArray):word01 s 1=(wordOk s&&lowB (firstB s)):=by
 unfold word01 wordOk
 rw[clsB_one]
 cases decide (1<=(s.size:Int)/\(s.size:Int)<=12)<;>cases lowB (firstB s)<;>cases allW s.data.toList<;>rfl
theorem impl_NameOk_c (s:ByteArray) (hs:StrOk s) (w:World):Calls Tryz.prog 103 #[.string s] w fun e w'=>e=.returned (.bool (nameOk s))/\Below w.heap.size w w':=by
 have c1:=fun W=>wordOk_c s hs W
 unfold StrOk at hs
 have hk:=fun u W (hW:Sl StrR 1 0 W u kwB)=>containsS_c kwB s 0 u W hW
 unfold nameOk
 cases hw:wordOk s with
 |false=>
  rw[hw]at c1
  clear hw hk
  go_enter Tryz.func103,Tryz.ntmps103
  go_wp2_with (go_at_call 145;((with_reducible refine(c1 _).mono ?_);rintro e w1 ⟨rfl,rfl⟩))
  go_returns
  exact⟨rfl,Below.refl _ _⟩
 |true=>
  rw[hw]at c1
  have h0:0<s.size:=by unfold wordOk at hw;simp at hw;omega
  have h0' : (0:Int)<s.size:=by omega
  have hf:firstB s=(s[0]'h0).toNat:=by unfold firstB;rw[dif_pos h0]
  rw[hf]
  clear hw hf
  have c2:=fun W=>isLower_c ((s[0]'h0).toNat:Int) W
  generalize lowB ((s[0]'h0).toNat:Int)=lb at *
  have e:(kwB.any fun y=>s.toList == y.toList)=isKw s:=rfl
  rw[e]at hk
  clear e
  generalize isKw s=kw at *
  replace hk:=kH hk
  cases lb with
  |false=>
   go_enter Tryz.func103,Tryz.ntmps103
   go_wp2_with (first|(go_at_call 145;((with_reducible refine(c1 _).mono ?_);rintro e w1 ⟨rfl,rfl⟩))|(go_at_call 146;((with_reducible refine(c2 _).mono ?_);rintro e w1 ⟨rfl,rfl⟩)))
   go_returns
   exact⟨rfl,Below.refl _ _⟩
  |true=>
   go_enter Tryz.func103,Tryz.ntmps103
   go_wp2_with (first|(go_at_call 145;((with_reducible refine(c1 _).mono ?_);rintro e w1 ⟨rfl,rfl⟩))|(go_at_call 146;((with_reducible refine(c2 _).mono ?_);rintro e w1 ⟨rfl,rfl⟩))|(go_at_call 147;((with_reducible refine(keywords_c _).mono ?_);rintro e w1 ⟨g,rfl,hS,hb⟩))|(go_at_call 62;((with_reducible refine(hk.out _ _ hS).mono ?_);rintro e w2 ⟨rfl,hb2⟩)))
   go_returns
   exact⟨rfl,hb.trans (hb2.mono hb.size)⟩
theorem l01Kept_c (s:ByteArray) (w:World):Calls Tryz.prog 130 #[.string s] w fun e w'=>e=.returned (.bool (isKw s))/\Below w.heap.size w w':=by
 have H:=row_strs (kw_row w 9) kw_ok 17 (by decide) (by omega)
 obtain⟨W0,hW0⟩ : ∃W0,W0=w.alloc (.cells (kwB.map Value.string).toArray 9):=⟨_,rfl⟩
 have hw0:Below w.heap.size w W0:=by rw[hW0];go_grown
 rw[<- hW0]at H
 obtain⟨a,c,hv,-,-,h0⟩:=H
 injection hv with e1 e2 e3
 subst e1
 replace h0:=kH h0
 clear e2 e3
 go_enter Tryz.func130,Tryz.ntmps130
 go_upto_region 2 with fail
 rw[show w.alloc (.cells #[.string ⟨#[108,101,116]⟩,.string ⟨#[114,101,99]⟩,.string ⟨#[105,110]⟩,.string ⟨#[102,117,110]⟩,.string ⟨#[105,102]⟩,.string ⟨#[116,104,101,110]⟩,.string ⟨#[101,108,115,101]⟩,.string ⟨#[109,97,116,99,104]⟩,.string ⟨#[119,105,116,104]⟩,.string ⟨#[101,110,100]⟩,.string ⟨#[116,121,112,101]⟩,.string ⟨#[111,102]⟩,.string ⟨#[114,97,105,115,101]⟩,.string ⟨#[116,114,121]⟩,.string ⟨#[114,101,102]⟩,.string ⟨#[116,114,117,101]⟩,.string ⟨#[102,97,108,115,101]⟩] 9)=W0 from hW0.symm]
 clear hW0
 go_loopw [7] (fun i wr=>∃k:Nat,k<=17/\i=.int .i64 k/\Below w.heap.size w wr/\Below W0.heap.size W0 wr/\Hid (∀y∈kwB.take k,(s.toList == y.toList)=false)) (fun i _=>17-(intOf i).toNat)
 case atStart=>exact⟨0,by omega,rfl,hw0,Below.refl _ _,fun y hy=>by simp at hy⟩
 case round=>
  obtain⟨k,hk,rfl,hw,hw1,hF⟩:=hrel
  have hlen:kwB.length=17:=rfl
  by_cases hlt:k<17
  ·obtain⟨b1,o1,x,r,_,hab,P1,⟨rfl,-⟩,r1⟩:=(h0.out.below StrR.good hw1).get (n:=17) (kH rfl) hlt
   obtain⟨rfl,rfl⟩ : w.heap.size=b1/\0=o1:=by injection hab with h;injection h with h1 h2;exact⟨h1,h2⟩
   have e0:wr.cell? ⟨w.heap.size,k,none⟩=some (.string x):=by simpa using r1 0 _ rfl
   clear r1 hab hlen
   cases hq:(s.toList == x.toList) with
   |true=>
    have hfin:isKw s=true:=List.any_eq_true.2 ⟨x,List.mem_of_getElem? P1.out,by simpa using hq⟩
    replace hfin:=kH hfin
    go_wp2_with fail
    go_returns
    exact⟨by rw[hfin.out];rfl,hw⟩
   |false=>
    have hq':=kH hq
    go_wp2_with fail
    go_roundw
    case rel=>exact⟨k+1,by omega,by go_num,hw,hw1,by
     show ∀y∈kwB.take (k+1),(s.toList == y.toList)=false
     rw[take_snoc' P1.out]
     intro y hy
     rcases List.mem_append.1 hy with h|h
     ·exact hF.out y h
     ·simp at h;subst h;exact hq'.out⟩
    case measure=>simp[intOf];omega
  ·obtain rfl:k=17:=by omega
   have hfin:isKw s=false:=List.any_eq_false.2 fun y hy=>by rw[hF.out y (by rw[List.take_of_length_le (by rw[hlen];omega)];exact hy)];simp
   replace hfin:=kH hfin
   clear hlen
   go_wp2_with fail
   go_returns
   exact⟨by rw[hfin.out];rfl,hw⟩
theorem spec_NameOk_c (s:ByteArray) (hs:StrOk s) (w:World):Calls Tryz.prog 89 #[.string s] w fun e w'=>e=.returned (.bool (nameOk s))/\Below w.heap.size w w':=by
 have c1:=fun W=>l01Word_c s 1 hs W
 have c2:=fun W=>l01Kept_c s W
 rw[word01_one]at c1
 unfold nameOk
 generalize (wordOk s&&lowB (firstB s))=b1 at *
 generalize isKw s=b2 at *
 cases b1 with
 |false=>
  go_enter Tryz.func89,Tryz.ntmps89
  go_wp2_with (go_at_call 129;((with_reducible refine(c1 _).mono ?_);rintro e w1 ⟨rfl,rfl⟩))
  go_returns
  exact⟨rfl,Below.refl _ _⟩
 |true=>
  go_enter Tryz.func89,Tryz.ntmps89
  go_wp2_with (first|(go_at_call 129;((with_reducible refine(c1 _).mono ?_);rintro e w1 ⟨rfl,rfl⟩))|(go_at_call 130;((with_reducible refine(c2 _).mono ?_);rintro e w1 ⟨rfl,hb⟩)))
  go_returns
  exact⟨rfl,hb⟩
end Go.Proofs.YtkikkfjmggobpaaGreat
