/- A nil slice as an outcome: it is an empty slice with a block without memory. No program in sight. -/
import Derived.Test.YtlankgapiecloaaGreatDoorYLib
namespace Go.Sy
open Go.RowKit
set_option linter.unusedVariables false
theorem out_nil {g:G} {w w':World} {n:Nat} {H:Heap} {cs:List BCol} {v:Value} (hl:len0 cs=true) (h:Out g w n H (fun r H' n'=>isOut .nsl [] n r H' n'∨isOut (.sl n 0 0 0) [(n,some (.one false (.cols 0 cs)))] (n+1) r H' n') v w'):Out g w n H (isOut (.sl n 0 0 0) [(n,some (.one false (.cols 0 cs)))] (n+1)) v w':=by
 obtain ⟨sv,H',n',g',hp,hn,hu,hk,hv,hH,hrw,hfr,hown⟩:=h
 rcases hp with ⟨rfl,rfl,rfl⟩|hp
 ·have h0:∀q,g' n' q=none:=fun q=>hu n' q (Nat.le_refl _)
  have ent:∀{h q:Nat} {ro:Bool} {b:Blk},Ent [(n',some (.one false (.cols 0 cs)))] h q ro b→h=n'∧q=0∧ro=false∧b= .cols 0 cs:=by
   rintro h q ro b ⟨hb,e,hi,hr⟩
   simp only [hget] at e
   cases hc:Nat.beq n' h with
   |false=>rw [hc] at e;simp at e
   |true=>
    rw [hc] at e
    simp only [cond_true,Option.some.injEq] at e
    subst e
    exact ⟨(Nat.eq_of_beq_eq_true hc).symm,hi.1,hr.symm,hi.2⟩
  refine ⟨_,_,_,g'.add n' ⟨0,0,cs.length,0⟩,⟨rfl,rfl,rfl⟩,Nat.le_succ _,?_,?_,?_,⟨?_,?_⟩,allRw_cons allRw_nil,hfr,?_⟩
  ·intro h q hh
   have e:h≠n':=by omega
   simp only [G.add]
   rw [if_neg (fun x=>e x.1)]
   exact hu h q (by omega)
  ·intro h q hh
   have e:h≠n':=by omega
   rw [←hk h q hh]
   simp only [G.add]
   rw [if_neg (fun x=>e x.1)]
  ·rw [rnsv' hv]
   simp only [Rv]
   exact ⟨none,0,rfl,Nat.le_refl _,.inl rfl⟩
  ·intro h q ro b he
   obtain ⟨rfl,rfl,rfl,rfl⟩:=ent he
   exact ⟨_,gdead,fun h=>by simp at h,rfl,len0_ok cs hl,fun i hi=>by simp only [Blk.has] at hi;omega,fun i j sv hi=>by simp only [Blk.has] at hi;omega,fun i j v hi=>by simp only [Blk.has] at hi;omega,fun _ i j hi=>by simp at hi,trivial⟩
  ·intro h q h2 q2 b ro2 b2 β β2 _ he _ hg _ hc
   obtain ⟨rfl,rfl,_,_⟩:=ent he
   rw [gdead] at hg
   cases hg
   simp at hc
  ·intro h q b β he hg hc
   obtain ⟨rfl,rfl,_,_⟩:=ent he
   rw [gdead] at hg
   cases hg
   simp at hc
 ·exact ⟨sv,H',n',g',hp,hn,hu,hk,hv,hH,hrw,hfr,hown⟩
theorem fc_nil {P:Program} {n:Nat} {f:FuncId} {args:List SV} {H:Heap} {cs:List BCol} (hl:len0 cs=true) (h:FC P n f args H (fun r H' n'=>isOut .nsl [] n r H' n'∨isOut (.sl n 0 0 0) [(n,some (.one false (.cols 0 cs)))] (n+1) r H' n')):FC P n f args H (isOut (.sl n 0 0 0) [(n,some (.one false (.cols 0 cs)))] (n+1)):=by
 rcases h with ⟨hb,h⟩|h
 ·refine .inl ⟨hb,fun g w vals h1 h2 h3 h4=>(h g w vals h1 h2 h3 h4).mono ?_⟩
  rintro e w' ⟨v,rfl,ho⟩
  exact ⟨v,rfl,out_nil hl ho⟩
 ·refine .inr (fun g w vals h1 h2 h3 h4=> ?_)
  obtain ⟨v,w',hr,ho⟩:=h g w vals h1 h2 h3 h4
  exact ⟨v,w',hr,out_nil hl ho⟩
theorem retP_mono {n0:Nat} {p q:SV→Heap→Nat→Prop} {r:SV} {vs:VS} (h:∀a b c,p a b c→q a b c):retP n0 p r vs→retP n0 q r vs:=fun ⟨l,u,r0,H0,n1,a,b⟩=>⟨l,u,r0,H0,n1,a,h _ _ _ b⟩
end Go.Sy
