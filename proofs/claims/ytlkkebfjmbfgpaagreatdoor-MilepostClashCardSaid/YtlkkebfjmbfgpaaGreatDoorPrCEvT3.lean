import Derived.Test.YtlkkebfjmbfgpaaGreatDoorPrCEvT2
import Derived.Orders
import Derived.ScopeJumps
import Derived.WalkKit
import Derived.ProofKit
import Derived.OpenShut
import Derived.ShutString
import Derived.ChangeOld
import Derived.SizedLaws
namespace Go.Proofs.YtlkkebfjmbfgpaaGreatDoor.Ev
open Go Go.RowKit
theorem bind_par {α β γ:Type} {x:Option α} {f:α→Option β} {g:α→Option γ} {y:β} {z:γ} (h:x.bind f=some y) (hg:∀ b,x=some b→f b=some y→g b=some z):x.bind g=some z:=by
  obtain ⟨b,hb,h⟩:=bind_some h
  rw [hb]
  exact hg b hb h
theorem cond_par {α β:Type} {c:Bool} {x:Option α} {x':Option β} {y:α} {z:β} (h:(bif c then x else none)=some y) (hg:c=true→x=some y→x'=some z):(bif c then x' else none)=some z:=by
  obtain ⟨hc,h⟩:=cond_some h
  rw [hc]
  exact hg hc h
theorem cond_par2 {α β:Type} {c:Bool} {x u:Option α} {x' u':Option β} {y:α} {z:β} (h:(bif c then x else u)=some y) (hg:c=true→x=some y→x'=some z) (hu:c=false→u=some y→u'=some z):(bif c then x' else u')=some z:=by
  cases c
  · exact hu rfl h
  · exact hg rfl h
def St.same (s s':St) (x:Operand):Prop:=∀ t,x=.tmp t→s'.look t=s.look t
section
variable {s s':St} {x:Operand}
theorem same_opv (h:s.same s' x) (T:Ty):s'.opv T x=s.opv T x:=by
  cases x <;> try rfl
  exact congrArg (Ent.atTy T) (h _ rfl)
theorem same_opi (h:s.same s' x):s'.opi x=s.opi x:=by
  cases x <;> (try rfl)
  · exact congrArg Ent.asInt (h _ rfl)
  · rename_i v
    cases v <;> rfl
theorem same_ope (h:s.same s' x):s'.ope x=s.ope x:=by
  cases x <;> try rfl
  exact congrArg Ent.deref (h _ rfl)
theorem same_bound (d:Int):∀ (x:Option Operand),(∀ y,x=some y→s.same s' y)→boundE s' d x=boundE s d x
  | none,_=>rfl
  | some y,h=>same_opi (h y rfl)
theorem same_opvs:∀ (Ts:List Ty) (xs:List Operand),(∀ x∈xs,s.same s' x)→s'.opvs Ts xs=s.opvs Ts xs
  | [],[],_=>rfl
  | [],_::_,_=>rfl
  | _::_,[],_=>rfl
  | T::Ts,x::xs,h=>by
    simp only [St.opvs,same_opv (h x (by simp)),same_opvs Ts xs fun y hy=>h y (by simp [hy])]
theorem same_parts:∀ (ps:List (Nat × Operand)) (fs:List Ty) (l:List AV),(∀ x∈ps.map Prod.snd,s.same s' x)→partsE s' ps fs l=partsE s ps fs l
  | [],_,_,_=>rfl
  | (i,x)::ps,fs,l,h=>by
    simp only [partsE,same_opv (h x (by simp)),fun l=>same_parts ps fs l fun y hy=>h y (by simp at hy ⊢; exact .inr hy)]
theorem same_elems (t:Ty):∀ (ps:List (Nat × Operand)) (l:List AV),(∀ x∈ps.map Prod.snd,s.same s' x)→elemsE s' t ps l=elemsE s t ps l
  | [],_,_=>rfl
  | (i,x)::ps,l,h=>by
    simp only [elemsE,same_opv (h x (by simp)),fun l=>same_elems t ps l fun y hy=>h y (by simp at hy ⊢; exact .inr hy)]
theorem same_caps:∀ (xs:List Operand),(∀ x∈xs,s.same s' x)→capsE s' xs=capsE s xs
  | [],_=>rfl
  | x::xs,h=>by
    simp only [capsE,same_ope (h x (by simp)),same_caps xs fun y hy=>h y (by simp [hy])]
end
structure Like (s s':St) (f:Eff):Prop where
  slot:∀ i,i∈f.ro→s'.slot i=s.slot i
  own:∀ i,i∈f.rw→s'.own i=s.own i
  len:s'.owns.length=s.owns.length
section
variable {s s':St} {f:Eff} {p:Pt}
theorem obAt_like (h:s'.slot p.id=s.slot p.id):s'.obAt p=s.obAt p:=by simp only [St.obAt,h]
theorem soleAt_like (h:s'.slot p.id=s.slot p.id):s'.soleAt p=s.soleAt p:=by simp only [St.soleAt,obAt_like h]
theorem getPt_like (h:s'.slot p.id=s.slot p.id):s'.getPt p=s.getPt p:=by simp only [St.getPt,obAt_like h]
theorem setPt_like (h:s'.slot p.id=s.slot p.id) (y:AV):s'.setPt p y=s.setPt p y:=by simp only [St.setPt,obAt_like h]
theorem refList_like (h:s'.slot p.id=s.slot p.id) (lo hi:Nat):s'.refList p lo hi=s.refList p lo hi:=by simp only [St.refList,getPt_like h]
theorem liveK_like {e:Ent} (hk:liveK s p e some=some f) (h:Like s s' f):liveK s' p e some=some f:=by
  obtain ⟨_,_,_,rfl⟩:=liveK_some hk
  have h1:s'.slot p.id=s.slot p.id:=h.slot p.id (by simp)
  unfold liveK at hk ⊢
  rw [obAt_like h1]
  exact hk
theorem tellNew_like {d:Option Nat} {t:Ty} {x:AV} (hk:tellNew s d t x some=some f) (h:Like s s' f):tellNew s' d t x some=some f:=by
  cases d with
  | none=>cases hk
  | some d =>
    simp only [tellNew] at hk ⊢
    have h1:s'.slot d=s.slot d:=h.slot d (by cases hk; simp)
    rw [h1]
    exact hk
theorem tellOwn_like {d:Option Nat} {t:Ty} {x:AV} (hk:tellOwn s d t x some=some f) (h:Like s s' f):tellOwn s' d t x some=some f:=by
  cases d with
  | none=>cases hk
  | some d =>
    simp only [tellOwn] at hk ⊢
    have h1:s'.own d=s.own d:=h.own d (by cases hk; simp)
    rw [h1]
    exact hk
theorem constK_like {d:Option Nat} {T:Ty} {v:Value} {a:AV} (hk:constK s d T v a some=some f) (h:Like s s' f):constK s' d T v a some=some f:=by
  unfold constK at hk ⊢
  split at hk
  · exact tellOwn_like hk h
  · exact hk
theorem srcE_like {T:Ty} {x:Operand} {b:List AV × List Nat} (hx:s.same s' x) (hk:srcE s T x=some b) (h:∀ i∈b.2,s'.slot i=s.slot i):srcE s' T x=some b:=by
  unfold srcE at hk ⊢
  rw [same_ope hx,same_opv hx]
  generalize (s.ope x).refOf=e at hk ⊢
  cases e with
  | none=>exact hk
  | some e =>
    obtain ⟨p,lo,hi⟩:=e
    simp only at hk ⊢
    split at hk
    · refine cond_par hk fun _ hk=>?_
      obtain ⟨l,hl,rfl⟩:=Option.map_eq_some_iff.1 hk
      have h1:s'.slot p.id=s.slot p.id:=h p.id (by simp)
      rw [refList_like h1,hl]
      rfl
    · cases hk
theorem convK_like {A B:Ty} {x:Operand} (hx:s.same s' x) (hk:convK s A B x some=some f) (h:Like s s' f):convK s' A B x some=some f:=by
  unfold convK at hk ⊢
  rw [same_opv hx]
  split at hk
  · exact hk
  · exact hk
  · obtain ⟨b,hb,hk⟩:=bind_some hk
    have hf:f=⟨.val .str none (.str (bytesOf b.1)),[],[],b.2,[]⟩:=by simpa [tellR,eq_comm] using hk
    rw [srcE_like hx hb (fun i hi=>h.slot i (by rw [hf]; exact hi))]
    exact hk
  · cases hk
theorem binK_like {op:BinOp} {T:Ty} {x y:Operand} (hx:s.same s' x) (hy:s.same s' y):binK s' op T x y some=binK s op T x y some:=by
  unfold binK eqK
  simp only [same_opv hx,same_opv hy,same_opi hy]
theorem unK_like {op:UnOp} {T:Ty} {x:Operand} (hx:s.same s' x):unK s' op T x some=unK s op T x some:=by
  unfold unK
  simp only [same_opv hx]
theorem sliceK_like {T:Ty} {x:Operand} {lo hi mx:Option Operand} (hx:s.same s' x) (hl:∀ y,lo=some y→s.same s' y) (hh:∀ y,hi=some y→s.same s' y) (hm:∀ y,mx=some y→s.same s' y)
    (hk:sliceK s T x lo hi mx some=some f) (h:Like s s' f):sliceK s' T x lo hi mx some=some f:=by
  unfold sliceK at hk ⊢
  simp only [same_opv hx,same_ope hx,same_bound _ lo hl,same_bound _ hi hh,same_bound _ mx hm]
  have arr:∀ n,(match s.ope x with
      | .ptr p=>bif p.t.beq T&&Nat.ble n maxLen then (boundE s 0 lo).bind fun l=>(boundE s (n:Int) hi).bind fun h=>(boundE s (n:Int) mx).bind fun m =>
        bif boundsOk l h m (n:Int)&&(mx.isNone || hi.isSome) then liveK s p (.ref p l.toNat h.toNat) some else none else none
      | _=>none)=some f→(match s.ope x with
      | .ptr p=>bif p.t.beq T&&Nat.ble n maxLen then (boundE s 0 lo).bind fun l=>(boundE s (n:Int) hi).bind fun h=>(boundE s (n:Int) mx).bind fun m =>
        bif boundsOk l h m (n:Int)&&(mx.isNone || hi.isSome) then liveK s' p (.ref p l.toNat h.toNat) some else none else none
      | _=>none)=some f:=by
    intro n hk
    generalize s.ope x=e at hk ⊢
    cases e <;> simp only at hk ⊢ <;> try (cases hk; done)
    exact cond_par hk fun _ hk=>bind_par hk fun _ _ hk=>bind_par hk fun _ _ hk=>bind_par hk fun _ _ hk=>cond_par hk fun _ hk=>liveK_like hk h
  cases T <;> simp only at hk ⊢ <;> try (cases hk; done)
  case str=>exact hk
  case slice E =>
    generalize (s.ope x).refOf=e at hk ⊢
    cases e with
    | none=>exact hk
    | some e =>
      obtain ⟨p,rl,rh⟩:=e
      exact bind_par hk fun _ _ hk=>bind_par hk fun _ _ hk=>bind_par hk fun _ _ hk=>cond_par hk fun _ hk=>liveK_like hk h
  case blob n=>exact arr n hk
  case arr n e=>exact arr n hk
theorem lenK_like {T:Ty} {x:Operand} (hx:s.same s' x) (hk:lenK s T x some=some f) (h:Like s s' f):lenK s' T x some=some f:=by
  unfold lenK at hk ⊢
  simp only [same_opv hx,same_ope hx]
  cases T <;> simp only at hk ⊢ <;> try (cases hk; done)
  all_goals (try exact hk)
  generalize (s.ope x).refOf=e at hk ⊢
  cases e with
  | none=>exact hk
  | some e=>exact liveK_like hk h
theorem appendK_like {d:Option Nat} {e:Ty} {by_:Nat} {x y:Operand} (hx:s.same s' x) (hy:s.same s' y) (hk:appendK s d e by_ x y some=some f) (h:Like s s' f):appendK s' d e by_ x y some=some f:=by
  unfold appendK at hk ⊢
  cases d with
  | none=>cases hk
  | some d =>
    simp only [same_ope hx] at hk ⊢
    obtain ⟨⟨b,ro⟩,hb,hk⟩:=bind_some hk
    simp only at hk
    have hs:(∀ i∈ro,i∈f.ro)→srcE s' (.slice e) y=some (b,ro):=fun hr=>srcE_like hy hb fun i hi=>h.slot i (hr i hi)
    split at hk
    · have hk':=hk
      obtain ⟨hc,hk⟩:=cond_some hk
      simp only [Option.some.injEq] at hk
      have h1:s'.own d=s.own d:=h.own d (by rw [← hk]; simp)
      rw [hs (by rw [← hk]; simp)]
      simp only [Option.bind_some,h1]
      exact hk'
    · rename_i T' g n a hno _ hxe
      have hk':=hk
      obtain ⟨hc,hk⟩:=cond_some hk
      obtain ⟨hc',hk⟩:=cond_some hk
      simp only [Option.some.injEq] at hk
      have h1:s'.own d=s.own d:=h.own d (by rw [← hk]; simp)
      have h2:s'.own g=s.own g:=h.own g (by rw [← hk]; simp)
      rw [hs (by rw [← hk]; simp)]
      simp only [Option.bind_some,h1,h2,h.len]
      exact hk'
    · cases hk
theorem copySrc_like {E S:Ty} {y:Operand} {b:List AV × List Nat} (hy:s.same s' y) (hk:copySrc s E S y=some b) (h:∀ i∈b.2,s'.slot i=s.slot i):copySrc s' E S y=some b:=by
  unfold copySrc at hk ⊢
  split at hk
  · rw [same_opv hy]; exact hk
  · exact cond_par hk fun _ hk=>srcE_like hy hk h
  · cases hk
theorem copyK_like {T S:Ty} {x y:Operand} (hx:s.same s' x) (hy:s.same s' y) (hk:copyK s T S x y some=some f) (h:Like s s' f):copyK s' T S x y some=some f:=by
  unfold copyK at hk ⊢
  rw [same_ope hx]
  generalize s.ope x=e at hk ⊢
  cases e <;> simp only at hk ⊢ <;> try (cases hk; done)
  case ref p lo hi =>
    split at hk
    · rename_i E E' he
      refine cond_par hk fun _ hk=>?_
      obtain ⟨b,hb,hk⟩:=bind_some hk
      obtain ⟨a,ha,hk⟩:=bind_some hk
      obtain ⟨w,hw,hk⟩:=bind_some hk
      simp only [Option.some.injEq] at hk
      have h1:s'.slot p.id=s.slot p.id:=h.slot p.id (by rw [← hk]; simp)
      rw [copySrc_like hy hb (fun i hi=>h.slot i (by rw [← hk]; simp [hi])),Option.bind_some,getPt_like h1,ha,Option.bind_some,setPt_like h1,hw,Option.bind_some,hk]
    · cases hk
theorem makeK_like {d:Option Nat} {T:Ty} {by_:Nat} {x y:Operand} (hx:s.same s' x) (hy:s.same s' y) (hk:makeK s d T by_ x y some=some f) (h:Like s s' f):makeK s' d T by_ x y some=some f:=by
  unfold makeK at hk ⊢
  simp only [same_opv hx,same_opv hy]
  split at hk
  · rename_i E d
    refine bind_par hk fun _ _ hk=>bind_par hk fun _ _ hk=>cond_par hk fun _ hk=>?_
    have h1:s'.slot d=s.slot d:=h.slot d (by cases hk; simp)
    rw [h1]
    exact hk
  · cases hk
theorem makeValK_like {d:Option Nat} {T:Ty} {by_:Nat} {x y:Operand} (hx:s.same s' x) (hy:s.same s' y) (hk:makeValK s d T by_ x y some=some f) (h:Like s s' f):makeValK s' d T by_ x y some=some f:=by
  unfold makeValK at hk ⊢
  simp only [same_opv hx,same_opv hy]
  cases T <;> simp only at hk ⊢ <;> try (cases hk; done)
  exact bind_par hk fun _ _ hk=>bind_par hk fun _ _ hk=>cond_par hk fun _ hk=>tellOwn_like hk h
theorem argsE_like:∀ (ts:List PTy) (os:List Operand) (ps:List Pt) (l:List AV × List Pt),(∀ x∈os,s.same s' x)→argsE s ts os ps=some l→(∀ p∈l.2,s'.slot p.id=s.slot p.id)→argsE s' ts os ps=some l
  | [],os,ps,l,_,hk,_=>by
    cases os <;> cases ps <;> first | exact hk | cases hk
  | .val t::ts,[],ps,l,_,hk,_=>by cases hk
  | .val t::ts,o::os,ps,l,hs,hk,h=>by
    simp only [argsE] at hk ⊢
    rw [same_opv (hs o (by simp))]
    refine bind_par hk fun _ _ hk=>?_
    obtain ⟨r,hr,rfl⟩:=Option.map_eq_some_iff.1 hk
    rw [argsE_like ts os ps r (fun x hx=>hs x (by simp [hx])) hr h]
    rfl
  | .ptr t::ts,o::os,ps,l,hs,hk,h=>by
    simp only [argsE] at hk ⊢
    rw [same_ope (hs o (by simp))]
    generalize s.ope o=e at hk ⊢
    cases e <;> simp only at hk ⊢ <;> try (cases hk; done)
    case ptr p =>
      obtain ⟨hc,hk⟩:=cond_some hk
      obtain ⟨x,hx,hk⟩:=bind_some hk
      obtain ⟨r,hr,rfl⟩:=Option.map_eq_some_iff.1 hk
      rw [soleAt_like (h p (by simp)),hc,cond_true,getPt_like (h p (by simp)),hx,Option.bind_some,argsE_like ts os ps r (fun x hx=>hs x (by simp [hx])) hr (fun q hq=>h q (by simp [hq]))]
      rfl
  | .ptr t::ts,[],[],l,_,hk,_=>by cases hk
  | .ptr t::ts,[],p::ps,l,hs,hk,h=>by
    simp only [argsE] at hk ⊢
    obtain ⟨hc,hk⟩:=cond_some hk
    obtain ⟨x,hx,hk⟩:=bind_some hk
    obtain ⟨r,hr,rfl⟩:=Option.map_eq_some_iff.1 hk
    rw [soleAt_like (h p (by simp)),hc,cond_true,getPt_like (h p (by simp)),hx,Option.bind_some,argsE_like ts [] ps r (fun x hx=>hs x hx) hr (fun q hq=>h q (by simp [hq]))]
    rfl
theorem outsE_like:∀ (ps:List Pt) (ys:List AV),(∀ p∈ps,s'.slot p.id=s.slot p.id)→outsE s' ps ys=outsE s ps ys
  | [],[],_=>rfl
  | [],_::_,_=>rfl
  | _::_,[],_=>rfl
  | p::ps,y::ys,h=>by
    simp only [outsE,setPt_like (h p (by simp)),outsE_like ps ys fun q hq=>h q (by simp [hq])]
theorem resultK_ro {d:Option Nat} {ts:List PTy} {fr:Bool} {r:Res} {ob:List (Nat × OSlot)} {ro:List Nat} (hk:resultK s d ts fr r ob ro some=some f):∀ i∈ro,i∈f.ro:=by
  unfold resultK at hk
  split at hk
  · obtain ⟨v,vs,_,hk⟩:=consV_some hk
    obtain ⟨_,hk⟩:=nilV_some hk
    unfold oneK at hk
    split at hk <;> (simp only [Option.some.injEq] at hk; rw [← hk]; intro i hi; exact hi)
  · obtain ⟨v,vs,_,hk⟩:=consV_some hk
    obtain ⟨_,hk⟩:=nilV_some hk
    split at hk
    · simp only [Option.some.injEq] at hk; rw [← hk]; intro i hi; simp [hi]
    · cases hk
  · rw [tupK_eq] at hk
    obtain ⟨l,_,hk⟩:=bind_some hk
    simp only [Option.some.injEq] at hk; rw [← hk]; intro i hi; exact hi
theorem cons_par {α β γ:Type} {l:List β} {k:β→List β→Option α} {k':β→List β→Option γ} {r:α} {r':γ} (h:consV l k=some r) (hg:∀ v vs,k v vs=some r→k' v vs=some r'):consV l k'=some r':=by
  cases l with
  | nil=>cases h
  | cons v vs=>exact hg v vs h
theorem nil_par {α β γ:Type} {l:List β} {k:Option α} {k':Option γ} {r:α} {r':γ} (h:nilV l k=some r) (hg:k=some r→k'=some r'):nilV l k'=some r':=by
  cases l with
  | nil=>exact hg h
  | cons v vs=>cases h
theorem oneK_like {d:Option Nat} {T:Ty} {fr:Bool} {v:AV} {ob:List (Nat × OSlot)} {ro:List Nat} (hk:oneK s d T fr v ob ro some=some f) (h:Like s s' f):oneK s' d T fr v ob ro some=some f:=by
  unfold oneK at hk ⊢
  split at hk
  · rename_i E d
    have h1:s'.own d=s.own d:=h.own d (by cases hk; simp)
    simp only [h1]
    exact hk
  · exact hk
theorem resultK_like {d:Option Nat} {ts:List PTy} {fr:Bool} {r:Res} {ob:List (Nat × OSlot)} {ro:List Nat} (hk:resultK s d ts fr r ob ro some=some f) (h:Like s s' f):resultK s' d ts fr r ob ro some=some f:=by
  unfold resultK at hk ⊢
  split at hk
  · exact cons_par hk fun v vs hk=>nil_par hk fun hk=>oneK_like hk h
  · refine cons_par hk fun v vs hk=>nil_par hk fun hk=>?_
    cases d with
    | none=>cases hk
    | some d =>
      have h1:s'.slot d=s.slot d:=h.slot d (by cases hk; simp)
      simp only [h1]
      exact hk
  · exact hk
theorem callK_like {G:Env} {run:Run} {d:Option Nat} {fn:FuncId} {caps:List Pt} {xs:List Operand} (hs:∀ x∈xs,s.same s' x) (hk:callK G run s d fn caps xs some=some f) (h:Like s s' f):callK G run s' d fn caps xs some=some f:=by
  unfold callK at hk ⊢
  refine bind_par hk fun i _ hk=>?_
  obtain ⟨l,hl,hk⟩:=bind_some hk
  obtain ⟨hc,hk⟩:=cond_some hk
  obtain ⟨r,hr,hk⟩:=bind_some hk
  obtain ⟨hfr,hk⟩:=cond_some hk
  rw [outsK_eq] at hk
  obtain ⟨ob,hob,hk⟩:=bind_some hk
  have h1:∀ p∈l.2,s'.slot p.id=s.slot p.id:=fun p hp=>h.slot _ (resultK_ro hk _ (List.mem_map_of_mem hp))
  rw [argsE_like _ _ _ _ hs hl h1,Option.bind_some,hc,cond_true,hr,Option.bind_some,hfr,cond_true,outsK_eq,outsE_like _ _ h1,hob,Option.bind_some]
  exact resultK_like hk h
theorem makeCloK_like {fn:FuncId} {alts:List (Nat × (List Nat × List Nat))} {ts:List Ty} {first caps:List Operand} (h1:∀ x∈first,s.same s' x) (h2:∀ x∈caps,s.same s' x) (hk:makeCloK s fn alts ts first caps some=some f):makeCloK s' fn alts ts first caps some=some f:=by
  unfold makeCloK at hk ⊢
  refine bind_par hk fun _ _ hk=>cond_par hk fun _ hk=>?_
  rw [same_opvs _ _ h1,same_opvs _ _ h2]
  exact hk
theorem callV_like {run:Run} {d:Option Nat} {fn:FuncId} {i:FnInfo} {l:List AV} (hk:callV run s d fn i l some=some f) (h:Like s s' f):callV run s' d fn i l some=some f:=by
  unfold callV at hk ⊢
  refine bind_par hk fun r _ hk=>cond_par hk fun _ hk=>?_
  cases ho:r.outs with
  | cons y ys=>rw [ho] at hk; cases hk
  | nil =>
    rw [ho] at hk
    exact resultK_like hk h
theorem closK_like {G:Env} {run:Run} {d:Option Nat} {ts:List Ty} {x:AV} {os:List Operand} (hs:∀ x∈os,s.same s' x) (h:Like s s' f):∀ {l:List (Nat × (List Nat × List Nat))},closK G run s d ts x os some l=some f→closK G run s' d ts x os some l=some f
  | [],hk=>by cases hk
  | (g,(gs,gp))::r,hk=>by
    simp only [closK] at hk ⊢
    refine cond_par2 hk (fun _ hk=>?_) (fun _ hk=>closK_like hs h hk)
    cases h0:Nat.beq g 0 with
    | true=>rw [h0] at hk; cases hk
    | false =>
      rw [h0,cond_false] at hk
      rw [cond_false]
      refine bind_par hk fun i _ hk=>?_
      obtain ⟨l,hl,hk⟩:=bind_some hk
      have:closArgs s' ts gs gp i x.cloXs os=some l:=by
        rw [← hl]
        unfold closArgs
        simp only [same_opvs _ _ hs]
      rw [this,Option.bind_some]
      exact callV_like hk h
theorem fieldAddrK_like {T:Ty} {x:Operand} {i:Nat} (hx:s.same s' x) (hk:fieldAddrK s T x i some=some f) (h:Like s s' f):fieldAddrK s' T x i some=some f:=by
  unfold fieldAddrK at hk ⊢
  rw [same_ope hx]
  generalize s.ope x=e at hk ⊢
  cases T <;> simp only at hk ⊢ <;> try (cases hk; done)
  case struct fs =>
    generalize fs[i]?=F at hk ⊢
    cases F <;> simp only at hk ⊢ <;> try (cases hk; done)
    cases e <;> simp only at hk ⊢ <;> try (cases hk; done)
    · exact hk
    · exact cond_par hk fun _ hk=>liveK_like hk h
theorem indexPtrK_like {T e:Ty} {n:Nat} {x:Operand} {i:Int} (hx:s.same s' x) (hk:indexPtrK s T e n x i some=some f) (h:Like s s' f):indexPtrK s' T e n x i some=some f:=by
  unfold indexPtrK at hk ⊢
  rw [same_ope hx]
  generalize s.ope x=e at hk ⊢
  cases e <;> simp only at hk ⊢ <;> try (cases hk; done)
  exact cond_par hk fun _ hk=>cond_par hk fun _ hk=>liveK_like hk h
theorem indexAddrK_like {T:Ty} {x:Operand} {i:Int} (hx:s.same s' x) (hk:indexAddrK s T x i some=some f) (h:Like s s' f):indexAddrK s' T x i some=some f:=by
  unfold indexAddrK at hk ⊢
  rw [same_ope hx]
  cases T <;> simp only at hk ⊢ <;> try (cases hk; done)
  case slice e =>
    rw [same_opv hx]
    generalize (s.ope x).refOf=z at hk ⊢
    cases z with
    | none=>exact hk
    | some z =>
      obtain ⟨p,lo,hi⟩:=z
      simp only at hk ⊢
      generalize p.t.elem=F at hk ⊢
      cases F <;> simp only at hk ⊢ <;> try (cases hk; done)
      exact cond_par hk fun _ hk=>cond_par hk fun _ hk=>liveK_like hk h
  case blob n=>exact indexPtrK_like hx hk h
  case arr n e=>exact indexPtrK_like hx hk h
theorem loadK_like {T:Ty} {x:Operand} (hx:s.same s' x) (hk:loadK s T x some=some f) (h:Like s s' f):loadK s' T x some=some f:=by
  unfold loadK at hk ⊢
  rw [same_ope hx]
  generalize s.ope x=e at hk ⊢
  cases e <;> simp only at hk ⊢ <;> try (cases hk; done)
  case «at»=>exact hk
  case ptr p =>
    refine cond_par hk fun _ hk=>?_
    obtain ⟨y,hy,hk⟩:=bind_some hk
    have h1:s'.slot p.id=s.slot p.id:=h.slot p.id (by simp only [tellR,Option.some.injEq] at hk; rw [← hk]; simp)
    rw [getPt_like h1,hy]
    exact hk
theorem storeK_like {T:Ty} {x y:Operand} (hx:s.same s' x) (hy:s.same s' y) (hk:storeK s T x y some=some f) (h:Like s s' f):storeK s' T x y some=some f:=by
  unfold storeK at hk ⊢
  rw [same_ope hx]
  generalize s.ope x=e at hk ⊢
  cases e <;> simp only at hk ⊢ <;> try (cases hk; done)
  case ptr p =>
    refine cond_par hk fun _ hk=>?_
    rw [same_opv hy]
    refine bind_par hk fun z _ hk=>?_
    obtain ⟨w,hw,hk⟩:=bind_some hk
    have h1:s'.slot p.id=s.slot p.id:=h.slot p.id (by simp only [Option.some.injEq] at hk; rw [← hk]; simp)
    rw [setPt_like h1,hw]
    exact hk
theorem buildK_like {T:Ty} {ps:List (Nat × Operand)} (hs:∀ x∈ps.map Prod.snd,s.same s' x) (hk:buildK s T ps some=some f):buildK s' T ps some=some f:=by
  unfold buildK at hk ⊢
  cases T <;> simp only at hk ⊢ <;> try (cases hk; done)
  · rw [same_elems _ _ _ hs]; exact hk
  · rw [same_elems _ _ _ hs]; exact hk
  · rw [same_parts _ _ _ hs]; exact hk
theorem buildSliceK_like {d:Option Nat} {T:Ty} {n:Nat} {ps:List (Nat × Operand)} (hs:∀ x∈ps.map Prod.snd,s.same s' x) (hk:buildSliceK s d T n ps some=some f) (h:Like s s' f):buildSliceK s' d T n ps some=some f:=by
  unfold buildSliceK at hk ⊢
  cases T <;> simp only at hk ⊢ <;> try (cases hk; done)
  rw [same_elems _ _ _ hs]
  exact bind_par hk fun _ _ hk=>cond_par hk fun _ hk=>tellOwn_like hk h
theorem fieldK_like {T:Ty} {x:Operand} {i:Nat} (hx:s.same s' x) (hk:fieldK s T x i some=some f):fieldK s' T x i some=some f:=by
  unfold fieldK at hk ⊢
  simp only [same_opv hx]
  exact hk
theorem extractK_like {x:Operand} {i:Nat} (hx:s.same s' x) (hk:extractK s x i some=some f):extractK s' x i some=some f:=by
  unfold extractK at hk ⊢
  simp only [same_ope hx]
  exact hk
theorem builtinK_like {G:Env} {d:Option Nat} {b:Builtin} {ts:List TypeId} {xs:List Operand} {rt:TypeId} (hs:∀ x∈xs,s.same s' x) (hk:builtinK G s d b ts xs rt some=some f) (h:Like s s' f):builtinK G s' d b ts xs rt some=some f:=by
  unfold builtinK at hk ⊢
  split at hk
  · exact bind_par hk fun _ _ hk=>lenK_like (hs _ (by simp)) hk h
  · refine bind_par hk fun T _ hk=>?_
    cases T <;> simp only at hk ⊢ <;> try (cases hk; done)
    rw [same_opvs _ _ hs]
    exact hk
  · refine bind_par hk fun T _ hk=>?_
    cases T <;> simp only at hk ⊢ <;> try (cases hk; done)
    rw [same_opvs _ _ hs]
    exact hk
  · refine bind_par hk fun T _ hk=>bind_par hk fun by_ _ hk=>cond_par hk fun _ hk=>?_
    cases T <;> simp only at hk ⊢ <;> try (cases hk; done)
    exact appendK_like (hs _ (by simp)) (hs _ (by simp)) hk h
  · exact bind_par hk fun _ _ hk=>bind_par hk fun _ _ hk=>copyK_like (hs _ (by simp)) (hs _ (by simp)) hk h
  · cases hk
end
theorem op_like {G:Env} {run:Run} {o:Oper} {s s':St} {f:Eff} (hs:∀ x∈o.op.operands.toList,s.same s' x) (hk:opK G run o s some=some f) (h:Like s s' f):opK G run o s' some=some f:=by
  cases ho:o.op <;> simp only [opK,ho] at hk ⊢ <;> (try (cases hk; done)) <;> simp only [ho,Op.operands] at hs
  case move x =>
    cases x <;> simp only at hk ⊢ <;> try (cases hk; done)
    · rw [hs _ (by simp) _ rfl]; exact hk
    · exact cond_par2 hk (fun _ hk=>hk) fun _ hk=>bind_par hk fun _ _ hk=>bind_par hk fun _ _ hk=>constK_like hk h
    · exact hk
  case assign x =>
    cases x <;> simp only at hk ⊢ <;> try (cases hk; done)
    · rw [hs _ (by simp) _ rfl]; exact hk
    · exact cond_par2 hk (fun _ hk=>hk) fun _ hk=>bind_par hk fun _ _ hk=>bind_par hk fun _ _ hk=>constK_like hk h
    · exact hk
  case pick c x y =>
    rw [same_opv (hs c (by simp)),same_opv (hs x (by simp)),same_opv (hs y (by simp))]
    exact hk
  case alloc t=>exact bind_par hk fun _ _ hk=>cond_par hk fun _ hk=>tellNew_like hk h
  case box t x =>
    refine bind_par hk fun _ _ hk=>?_
    rw [same_opv (hs x (by simp))]
    exact bind_par hk fun _ _ hk=>cond_par2 hk (fun _ hk=>hk) fun _ hk=>tellNew_like hk h
  case build t ps=>exact bind_par hk fun _ _ hk=>cond_par hk fun _ hk=>buildK_like (fun x hx=>hs x (by simpa using hx)) hk
  case buildSlice t n ps=>exact bind_par hk fun _ _ hk=>buildSliceK_like (fun x hx=>hs x (by simpa using hx)) hk h
  case load t x=>exact bind_par hk fun _ _ hk=>loadK_like (hs x (by simp)) hk h
  case store t x y=>exact bind_par hk fun _ _ hk=>storeK_like (hs x (by simp)) (hs y (by simp)) hk h
  case nilCheck x =>
    rw [same_ope (hs x (by simp))]
    generalize s.ope x=e at hk ⊢
    cases e <;> simp only at hk ⊢ <;> try (cases hk; done)
    · exact hk
    · exact liveK_like hk h
  case binOp op t x y yt =>
    have e:ptrTest G s' op t x y=ptrTest G s op t x y:=by unfold ptrTest; rw [same_ope (hs x (by simp))]
    rw [e]
    split at hk
    · exact liveK_like hk h
    · simp only [binK_like (hs x (by simp)) (hs y (by simp))]
      exact hk
  case unOp op t x =>
    simp only [unK_like (hs x (by simp))]
    exact hk
  case convert A B x=>exact bind_par hk fun _ _ hk=>bind_par hk fun _ _ hk=>convK_like (hs x (by simp)) hk h
  case makeFunc F first caps =>
    cases F <;> simp only at hk ⊢ <;> try (cases hk; done)
    split at hk
    · exact makeCloK_like (fun x hx=>hs x (by simp; exact .inl (by simpa using hx))) (fun x hx=>hs x (by simp; exact .inr (by simpa using hx))) hk
    refine cond_par hk fun _ hk=>?_
    rw [same_caps _ (fun x hx=>hs x (by simp; exact .inr (by simpa using hx)))]
    exact hk
  case makeSlice t x y=>exact bind_par hk fun _ _ hk=>bind_par hk fun _ _ hk=>cond_par hk fun _ hk=>cond_par2 hk (fun _ hk=>makeValK_like (hs x (by simp)) (hs y (by simp)) hk h) (fun _ hk=>makeK_like (hs x (by simp)) (hs y (by simp)) hk h)
  case slice t x lo hi mx =>
    exact bind_par hk fun _ _ hk=>sliceK_like (hs x (by simp)) (fun y e=>hs y (by simp [e])) (fun y e=>hs y (by simp [e])) (fun y e=>hs y (by simp [e])) hk h
  case fieldAddr t x i=>exact bind_par hk fun _ _ hk=>fieldAddrK_like (hs x (by simp)) hk h
  case field t x i=>exact bind_par hk fun _ _ hk=>fieldK_like (hs x (by simp)) hk
  case indexAddr t x ix =>
    refine bind_par hk fun _ _ hk=>?_
    rw [same_opi (hs ix (by simp))]
    exact bind_par hk fun _ _ hk=>indexAddrK_like (hs x (by simp)) hk h
  case index t x ix =>
    refine bind_par hk fun _ _ hk=>?_
    rw [same_opi (hs ix (by simp)),same_opv (hs x (by simp))]
    exact hk
  case extract x i=>exact extractK_like (hs x (by simp)) hk
  case call cl =>
    have ha:∀ x∈cl.args.toList,s.same s' x:=fun x hx=>hs x (by simp [Call.operands]; exact .inr (by simpa using hx))
    cases hcl:cl.callee <;> simp only [hcl] at hk ⊢ <;> (try (cases hk; done))
    case value F =>
      have hF:s.same s' F:=hs F (by simp [Call.operands,hcl])
      cases F <;> simp only at hk ⊢ <;> (try (cases hk; done))
      case tmp t =>
        rw [hF t rfl]
        generalize s.look t=e at hk ⊢
        split at hk
        · exact callK_like ha hk h
        · exact callK_like ha hk h
        · exact closK_like ha h hk
        · cases hk
      case func g=>exact callK_like ha hk h
    case builtin b=>exact builtinK_like ha hk h
end Go.Proofs.YtlkkebfjmbfgpaaGreatDoor.Ev
namespace Go.Proofs.YtlkkebfjmbfgpaaGreatDoor.Ev
open Go Go.RowKit
section
variable {α:Type} {k:Eff→Option α} {s:St}
theorem cps_bind {β:Type} {x:Option β} {f:β→Option α} {g:β→Option Eff} (h:∀ z,f z=(g z).bind k):x.bind f=(x.bind g).bind k:=by
  cases x
  · rfl
  · exact h _
theorem cps_cond {c:Bool} {x y:Option α} {x' y':Option Eff} (h:x=x'.bind k) (h':y=y'.bind k):(bif c then x else y)=(bif c then x' else y').bind k:=by
  cases c
  · exact h'
  · exact h
theorem liveK_cps (p:Pt) (e:Ent):liveK s p e k=(liveK s p e some).bind k:=by
  unfold liveK tellR
  exact cps_bind fun _=>rfl
theorem tellNew_cps (d:Option Nat) (t:Ty) (x:AV):tellNew s d t x k=(tellNew s d t x some).bind k:=by
  cases d <;> rfl
theorem tellOwn_cps (d:Option Nat) (t:Ty) (x:AV):tellOwn s d t x k=(tellOwn s d t x some).bind k:=by
  cases d <;> rfl
theorem eqK_cps (op:BinOp) (t:Ty) (x y:Operand):eqK s op t x y k=(eqK s op t x y some).bind k:=by
  unfold eqK tell
  refine cps_cond (cps_bind fun _=>cps_bind fun _=>?_) rfl
  cases op <;> rfl
theorem binK_cps (op:BinOp) (t:Ty) (x y:Operand):binK s op t x y k=(binK s op t x y some).bind k:=by
  unfold binK tell
  cases t with
  | int kd =>
    have base:∀ a b:AV,(match intOp kd op a.toInt b.toInt with
        | some r=>k <| Eff.mk (.val (.int kd) none (.int r)) [] [] [] []
        | none=>match cmpOp op a.toInt b.toInt with
          | some r=>k <| Eff.mk (.val .bool none (.bool r)) [] [] [] []
          | none=>none)=(match intOp kd op a.toInt b.toInt with
        | some r=>some <| Eff.mk (.val (.int kd) none (.int r)) [] [] [] []
        | none=>match cmpOp op a.toInt b.toInt with
          | some r=>some <| Eff.mk (.val .bool none (.bool r)) [] [] [] []
          | none=>none).bind k:=by
      intro a b
      cases intOp kd op a.toInt b.toInt
      · cases cmpOp op a.toInt b.toInt <;> rfl
      · rfl
    cases op <;> (refine cps_bind fun a=>cps_bind fun b=>?_) <;> first | exact base a b | exact cps_cond rfl rfl
  | str =>
    have base:∀ a b:AV,(match strCmp op a.toStr b.toStr with
          | some r=>k <| Eff.mk (.val .bool none (.bool r)) [] [] [] []
          | none=>none)=(match strCmp op a.toStr b.toStr with
          | some r=>some <| Eff.mk (.val .bool none (.bool r)) [] [] [] []
          | none=>none).bind k:=by
      intro a b
      cases strCmp op a.toStr b.toStr <;> rfl
    cases op <;> (refine cps_bind fun a=>cps_bind fun b=>?_) <;> first | exact base a b | exact cps_cond rfl rfl
  | _=>exact eqK_cps _ _ _ _
theorem unK_cps (op:UnOp) (t:Ty) (x:Operand):unK s op t x k=(unK s op t x some).bind k:=by
  unfold unK tell
  refine cps_bind fun a=>?_
  cases op <;> cases t <;> rfl
theorem convK_cps (A B:Ty) (x:Operand):convK s A B x k=(convK s A B x some).bind k:=by
  unfold convK tell tellR
  split
  · exact cps_bind fun _=>rfl
  · exact cps_bind fun _=>rfl
  · exact cps_bind fun _=>rfl
  · rfl
theorem sliceK_cps (T:Ty) (x:Operand) (lo hi mx:Option Operand):sliceK s T x lo hi mx k=(sliceK s T x lo hi mx some).bind k:=by
  unfold sliceK tell
  cases T with
  | str=>cases mx with
    | none=>exact cps_bind fun _=>cps_bind fun _=>cps_bind fun _=>cps_cond rfl rfl
    | some m=>rfl
  | slice E =>
    simp only
    cases (s.ope x).refOf with
    | none=>exact cps_bind fun _=>cps_bind fun _=>cps_bind fun _=>cps_bind fun _=>cps_cond rfl rfl
    | some e=>exact cps_bind fun _=>cps_bind fun _=>cps_bind fun _=>cps_cond (liveK_cps _ _) rfl
  | blob n =>
    simp only
    cases s.ope x <;> first | rfl | exact cps_cond (cps_bind fun _=>cps_bind fun _=>cps_bind fun _=>cps_cond (liveK_cps _ _) rfl) rfl
  | arr n e =>
    simp only
    cases s.ope x <;> first | rfl | exact cps_cond (cps_bind fun _=>cps_bind fun _=>cps_bind fun _=>cps_cond (liveK_cps _ _) rfl) rfl
  | _=>rfl
theorem lenK_cps (T:Ty) (x:Operand):lenK s T x k=(lenK s T x some).bind k:=by
  unfold lenK tell
  cases T with
  | str=>exact cps_bind fun _=>rfl
  | slice E =>
    simp only
    cases (s.ope x).refOf with
    | none=>exact cps_bind fun _=>rfl
    | some e=>exact liveK_cps _ _
  | blob n=>exact cps_cond rfl rfl
  | arr n e=>exact cps_cond rfl rfl
  | _=>rfl
theorem appendK_cps (d:Option Nat) (e:Ty) (by_:Nat) (x y:Operand):appendK s d e by_ x y k=(appendK s d e by_ x y some).bind k:=by
  unfold appendK
  cases d with
  | none=>rfl
  | some d =>
    refine cps_bind fun b=>?_
    simp only
    split
    · exact cps_cond rfl rfl
    · exact cps_cond (cps_cond rfl rfl) rfl
    · rfl
theorem copyK_cps (T S:Ty) (x y:Operand):copyK s T S x y k=(copyK s T S x y some).bind k:=by
  unfold copyK
  cases s.ope x <;> try rfl
  simp only
  split
  · exact cps_cond (cps_bind fun _=>cps_bind fun _=>cps_bind fun _=>rfl) rfl
  · rfl
theorem makeK_cps (d:Option Nat) (T:Ty) (by_:Nat) (x y:Operand):makeK s d T by_ x y k=(makeK s d T by_ x y some).bind k:=by
  unfold makeK
  cases T <;> cases d <;> try rfl
  exact cps_bind fun _=>cps_bind fun _=>cps_cond rfl rfl
theorem makeValK_cps (d:Option Nat) (T:Ty) (by_:Nat) (x y:Operand):makeValK s d T by_ x y k=(makeValK s d T by_ x y some).bind k:=by
  unfold makeValK
  cases T <;> try rfl
  exact cps_bind fun _=>cps_bind fun _=>cps_cond (by unfold tellOwn; cases d <;> rfl) rfl
theorem builtinK_cps (G:Env) (d:Option Nat) (b:Builtin) (ts:List TypeId) (xs:List Operand) (rt:TypeId):builtinK G s d b ts xs rt k=(builtinK G s d b ts xs rt some).bind k:=by
  unfold builtinK tell
  split
  · exact cps_bind fun _=>lenK_cps _ _
  · refine cps_bind fun T=>?_
    cases T <;> try rfl
    exact cps_bind fun _=>cps_bind fun _=>rfl
  · refine cps_bind fun T=>?_
    cases T <;> try rfl
    exact cps_bind fun _=>cps_bind fun _=>rfl
  · refine cps_bind fun T=>cps_bind fun _=>cps_cond ?_ rfl
    cases T <;> try rfl
    exact appendK_cps _ _ _ _ _
  · exact cps_bind fun _=>cps_bind fun _=>copyK_cps _ _ _ _
  · rfl
theorem cps_cons {β:Type} {l:List β} {f:β→List β→Option α} {g:β→List β→Option Eff} (h:∀ v vs,f v vs=(g v vs).bind k):consV l f=(consV l g).bind k:=by
  cases l
  · rfl
  · exact h _ _
theorem cps_nil {β:Type} {l:List β} {f:Option α} {g:Option Eff} (h:f=g.bind k):nilV l f=(nilV l g).bind k:=by
  cases l
  · exact h
  · rfl
theorem resultK_cps (d:Option Nat) (ts:List PTy) (fr:Bool) (r:Res) (ob:List (Nat × OSlot)) (ro:List Nat):resultK s d ts fr r ob ro k=(resultK s d ts fr r ob ro some).bind k:=by
  unfold resultK
  split
  · refine cps_cons fun v vs=>cps_nil ?_
    unfold oneK
    split <;> rfl
  · refine cps_cons fun v vs=>cps_nil ?_
    cases d <;> rfl
  · rw [tupK_eq,tupK_eq]
    exact cps_bind fun _=>rfl
theorem outsK_cps (ps:List Pt) (ys:List AV) {F:List (Nat × OSlot)→Option α} {F':List (Nat × OSlot)→Option Eff} (h:∀ l,F l=(F' l).bind k):outsK s ps ys F=(outsK s ps ys F').bind k:=by
  rw [outsK_eq,outsK_eq]
  exact cps_bind h
theorem callK_cps (G:Env) (run:Run) (d:Option Nat) (f:FuncId) (caps:List Pt) (xs:List Operand):callK G run s d f caps xs k=(callK G run s d f caps xs some).bind k:=by
  unfold callK
  exact cps_bind fun _=>cps_bind fun _=>cps_cond (cps_bind fun _=>cps_cond (outsK_cps _ _ fun _=>resultK_cps _ _ _ _ _ _) rfl) rfl
theorem makeCloK_cps (f:FuncId) (alts:List (Nat × (List Nat × List Nat))) (ts:List Ty) (first caps:List Operand):makeCloK s f alts ts first caps k=(makeCloK s f alts ts first caps some).bind k:=by
  unfold makeCloK
  exact cps_bind fun _=>cps_cond (cps_bind fun _=>cps_bind fun _=>rfl) rfl
theorem callV_cps (run:Run) (d:Option Nat) (f:FuncId) (i:FnInfo) (l:List AV):callV run s d f i l k=(callV run s d f i l some).bind k:=by
  unfold callV
  refine cps_bind fun r=>cps_cond ?_ rfl
  cases r.outs with
  | nil=>exact resultK_cps _ _ _ _ _ _
  | cons y ys=>rfl
theorem closK_cps (G:Env) (run:Run) (d:Option Nat) (ts:List Ty) (x:AV) (os:List Operand):∀ (l:List (Nat × (List Nat × List Nat))),closK G run s d ts x os k l=(closK G run s d ts x os some l).bind k
  | []=>rfl
  | (g,(gs,gp))::r=>by
    simp only [closK]
    exact cps_cond (cps_cond rfl (cps_bind fun _=>cps_bind fun _=>callV_cps _ _ _ _ _)) (closK_cps G run d ts x os r)
theorem fieldAddrK_cps (T:Ty) (x:Operand) (i:Nat):fieldAddrK s T x i k=(fieldAddrK s T x i some).bind k:=by
  unfold fieldAddrK tell
  cases T <;> try rfl
  simp only
  split
  · cases s.ope x <;> first | rfl | exact cps_cond rfl rfl | exact cps_cond (liveK_cps _ _) rfl
  · rfl
theorem indexPtrK_cps (T e:Ty) (n:Nat) (x:Operand) (i:Int):indexPtrK s T e n x i k=(indexPtrK s T e n x i some).bind k:=by
  unfold indexPtrK
  cases s.ope x <;> first | rfl | exact cps_cond (cps_cond (liveK_cps _ _) rfl) rfl
theorem indexAddrK_cps (T:Ty) (x:Operand) (i:Int):indexAddrK s T x i k=(indexAddrK s T x i some).bind k:=by
  unfold indexAddrK tell
  cases T with
  | slice e =>
    simp only
    cases (s.ope x).refOf with
    | none=>exact cps_bind fun _=>cps_cond rfl rfl
    | some z =>
      simp only
      cases z.1.t.elem with
      | none=>rfl
      | some e'=>exact cps_cond (cps_cond (liveK_cps _ _) rfl) rfl
  | blob n=>exact indexPtrK_cps _ _ _ _ _
  | arr n e=>exact indexPtrK_cps _ _ _ _ _
  | _=>rfl
theorem indexK_cps (T:Ty) (a:AV) (i:Int):indexK T a i k=(indexK T a i some).bind k:=by
  unfold indexK tell
  cases T <;> first | rfl | exact cps_cond rfl rfl
theorem constK_cps (d:Option Nat) (T:Ty) (v:Value) (a:AV):constK s d T v a k=(constK s d T v a some).bind k:=by
  unfold constK tell
  split
  · exact tellOwn_cps _ _ _
  · rfl
theorem buildK_cps (T:Ty) (ps:List (Nat × Operand)):buildK s T ps k=(buildK s T ps some).bind k:=by
  unfold buildK tell
  cases T <;> first | rfl | exact cps_bind fun _=>rfl
theorem buildSliceK_cps (d:Option Nat) (T:Ty) (n:Nat) (ps:List (Nat × Operand)):buildSliceK s d T n ps k=(buildSliceK s d T n ps some).bind k:=by
  unfold buildSliceK
  cases T <;> first | rfl | exact cps_bind fun _=>cps_cond (tellOwn_cps _ _ _) rfl
theorem loadK_cps (T:Ty) (a:Operand):loadK s T a k=(loadK s T a some).bind k:=by
  unfold loadK tell tellR
  cases s.ope a <;> first | rfl | exact cps_cond rfl rfl | exact cps_cond (cps_bind fun _=>rfl) rfl
theorem storeK_cps (T:Ty) (a x:Operand):storeK s T a x k=(storeK s T a x some).bind k:=by
  unfold storeK
  cases s.ope a <;> first | rfl | exact cps_cond (cps_bind fun _=>cps_bind fun _=>rfl) rfl
theorem fieldK_cps (T:Ty) (x:Operand) (i:Nat):fieldK s T x i k=(fieldK s T x i some).bind k:=by
  unfold fieldK tell
  cases T <;> try rfl
  simp only
  split
  · exact cps_bind fun _=>rfl
  · rfl
theorem extractK_cps (x:Operand) (i:Nat):extractK s x i k=(extractK s x i some).bind k:=by
  unfold extractK tell
  cases s.ope x <;> try rfl
  simp only
  split <;> rfl
theorem opK_cps (G:Env) (run:Run) (o:Oper) (k:Eff→Option α):opK G run o s k=(opK G run o s some).bind k:=by
  cases ho:o.op <;> simp only [opK,ho] <;> (try rfl)
  case move x=>cases x <;> first | rfl | exact cps_cond rfl (cps_bind fun _=>cps_bind fun _=>constK_cps _ _ _ _)
  case assign x=>cases x <;> first | rfl | exact cps_cond rfl (cps_bind fun _=>cps_bind fun _=>constK_cps _ _ _ _)
  case pick c x y=>exact cps_bind fun _=>cps_bind fun _=>rfl
  case alloc t=>exact cps_bind fun _=>cps_cond (tellNew_cps _ _ _) rfl
  case box t x=>exact cps_bind fun _=>cps_bind fun _=>cps_cond rfl (tellNew_cps _ _ _)
  case build t ps=>exact cps_bind fun _=>cps_cond (buildK_cps _ _) rfl
  case buildSlice t n ps=>exact cps_bind fun _=>buildSliceK_cps _ _ _ _
  case load t x=>exact cps_bind fun _=>loadK_cps _ _
  case store t x y=>exact cps_bind fun _=>storeK_cps _ _ _
  case nilCheck x=>cases s.ope x <;> first | rfl | exact liveK_cps _ _
  case binOp op t x y yt =>
    split
    · exact liveK_cps _ _
    · exact cps_bind fun _=>binK_cps _ _ _ _
  case unOp op t x=>exact cps_bind fun _=>unK_cps _ _ _
  case convert A B x=>exact cps_bind fun _=>cps_bind fun _=>convK_cps _ _ _
  case makeFunc F first caps =>
    cases F <;> try rfl
    simp only
    split
    · exact makeCloK_cps _ _ _ _ _
    · exact cps_cond (cps_cond rfl (cps_bind fun _=>rfl)) rfl
  case makeSlice t x y=>exact cps_bind fun _=>cps_bind fun _=>cps_cond (cps_cond (makeValK_cps _ _ _ _ _) (makeK_cps _ _ _ _ _)) rfl
  case slice t x lo hi mx=>exact cps_bind fun _=>sliceK_cps _ _ _ _ _
  case fieldAddr t x i=>exact cps_bind fun _=>fieldAddrK_cps _ _ _
  case field t x i=>exact cps_bind fun _=>fieldK_cps _ _ _
  case indexAddr t x ix=>exact cps_bind fun _=>cps_bind fun _=>indexAddrK_cps _ _ _
  case index t x ix=>exact cps_bind fun _=>cps_bind fun _=>cps_bind fun _=>indexK_cps _ _ _
  case extract x i=>exact extractK_cps _ _
  case call cl =>
    cases cl.callee with
    | value F=>cases F with
      | tmp t =>
        simp only
        split
        · exact callK_cps _ _ _ _ _ _
        · exact callK_cps _ _ _ _ _ _
        · exact closK_cps _ _ _ _ _ _ _
        · rfl
      | func f=>exact callK_cps _ _ _ _ _ _
      | _=>rfl
    | builtin b=>exact builtinK_cps _ _ _ _ _ _
    | invoke r m=>rfl
theorem stepK_cps (G:Env) (run:Run) (ops:List Oper) (o:Oper) (k:Eff→Option α):stepK G run ops o s k=(stepK G run ops o s some).bind k:=by
  unfold stepK
  cases o.guard with
  | none=>exact opK_cps _ _ _ _
  | some g=>exact cps_bind fun _=>cps_bind fun _=>cps_cond (opK_cps _ _ _ _) rfl
end
end Go.Proofs.YtlkkebfjmbfgpaaGreatDoor.Ev
namespace Go.Proofs.YtlkkebfjmbfgpaaGreatDoor.Ev
open Go Go.RowKit
variable {c:Ctx} {gh:Ghost} {s:St} {a:Act} {w:World} {P:Program} {G:Env} {run:Run} {o:Oper}
def StepWp (P:Program) (ops:Array Oper) (Q:Exit→Act→World→Prop) (o:Oper) (K:Act→World→Prop) (a:Act) (w:World):Prop :=
  if Region.wanted o (yielded ops a.tmps) then o.wp P a w K Q else K (a.put o.dst undef) w
theorem Rel.undef (h:Rel c gh s a w) (hd:dstOk s o.dst=true):Rel c gh (Eff.apply ⟨.undef,[],[],[],[]⟩ o.dst s) (a.put o.dst undef) w :=
  h.put o.dst (e:=.undef) (v:=Go.undef) rfl hd
theorem step_sound {ops:Array Oper} {Q:Exit→Act→World→Prop} {K:Act→World→Prop} {fx:Eff} (hT:TyAll P G) (hF:FnsOk P G run) (h:Rel c gh s a w) (hd:dstOk s o.dst=true)
    (hk:stepK G run ops.toList o s some=some fx) (hn:∀ gh' a' w',Rel c gh' (fx.apply o.dst s) a' w'→K a' w'):StepWp P ops Q o K a w:=by
  unfold stepK at hk
  unfold StepWp
  cases hg:o.guard with
  | none =>
    rw [hg] at hk
    simp only at hk
    simp only [Region.wanted,hg,if_true]
    exact op_sound hT hF h hd hk hn
  | some g =>
    rw [hg] at hk
    simp only at hk
    obtain ⟨⟨d,want⟩,hgt,hk⟩:=bind_some hk
    obtain ⟨b,hb,hk⟩:=bind_some hk
    unfold guardTmp at hgt
    rw [hg] at hgt
    simp only [Option.bind_some] at hgt
    obtain ⟨oj,hoj,hgt⟩:=bind_some hgt
    obtain ⟨d',hd',he⟩:=Option.map_eq_some_iff.1 hgt
    simp only [Prod.mk.injEq] at he
    obtain ⟨rfl,rfl⟩:=he
    have hy:yielded ops a.tmps g.1=match a.tmps[d']? with
        | some (.bool b)=>some b
        | _=>none:=by
      unfold yielded
      have:(ops[g.1]?).bind (·.dst)=some d':=by
        rw [← Array.getElem?_toList,hoj]
        exact hd'
      rw [this,Option.bind_some]
      rfl
    have hw:Region.wanted o (yielded ops a.tmps)=b:=by
      simp only [Region.wanted,hg,hy]
      have ht:=h.tmps d'
      simp only at hb
      cases hl:s.look d' <;> rw [hl] at hb ht <;> simp only [Ent.yes] at hb <;> (try (cases hb; done))
      · have h2:a.tmps.getD d' undef=undef:=ht
        have h1:∀ b',a.tmps[d']?≠some (.bool b'):=by
          intro b' e
          rw [Array.getD_eq_getD_getElem?,e] at h2
          cases h2
        cases hb
        split
        · rename_i b' e; exact absurd e (h1 b')
        · rfl
      · rename_i t g' x
        cases t <;> simp only at hb <;> (try (cases hb; done))
        obtain ⟨b',h1,rfl⟩:=VRep.bool ht.1
        have h2:a.tmps[d']?=some (.bool b'):=by
          rw [Array.getD_eq_getD_getElem?] at h1
          cases h3:a.tmps[d']? with
          | none=>rw [h3] at h1; cases h1
          | some v=>rw [h3] at h1; exact congrArg some h1
        rw [h2]
        simp only [AV.toBool,Option.some.injEq] at hb
        rw [← hb]
        cases b' <;> cases g.2 <;> rfl
    rw [hw]
    cases b with
    | true =>
      rw [cond_true] at hk
      exact op_sound hT hF h hd hk hn
    | false =>
      rw [cond_false] at hk
      rw [tell_some hk] at hn
      exact hn _ _ _ (h.undef hd)
theorem refineK_eq {α:Type} {s:St} (ops:List Oper) (o:Oper) (k:St→Option α):refineK ops o s k=k s:=by
  have same:∀ (t:Nat) (e:Ent),s.look t=e→e≠.any→(⟨s.tmps.set t e,s.objs,s.owns⟩:St)=s:=fun t e h hne=>by
    have:s.tmps.set t e=s.tmps:=by
      refine List.ext_getElem? fun i=>?_
      by_cases hi:t=i
      · subst hi
        cases ht:s.tmps[t]? with
        | none=>simp [List.getElem?_eq_none_iff.1 ht]
        | some x =>
          have hl:=(List.getElem?_eq_some_iff.1 ht).1
          rw [List.getElem?_set_self hl]
          rw [St.look,List.getD,ht] at h
          exact congrArg some h.symm
      · rw [List.getElem?_set_ne hi]
    rw [this]
  unfold refineK
  split
  · rfl
  · rename_i g _
    split
    · rename_i w b hl
      cases b with
      | true=>rw [cond_true,same _ _ hl (by simp)]
      | false=>rw [cond_false,same _ _ hl (by simp)]
    · rfl
theorem opsK_sound {ops:Array Oper} {Q:Exit→Act→World→Prop} {α:Type} {K:St→Option α} {r:α} (hT:TyAll P G) (hF:FnsOk P G run)
    (hQ:∀ s' gh' a' w',Rel c gh' s' a' w'→K s'=some r→Q .normal a' w') :
    ∀ (l:List Oper) (gh:Ghost) (s:St) (a:Act) (w:World),Rel c gh s a w→opsK G run ops.toList l K s=some r→wpList P ops Q l a w
  | [],gh,s,a,w,h,hk=>hQ _ _ _ _ h hk
  | o::l,gh,s,a,w,h,hk=>by
    simp only [opsK] at hk
    obtain ⟨hd,hk⟩:=cond_some hk
    rw [refineK_eq,stepK_cps] at hk
    obtain ⟨fx,hfx,hk⟩:=bind_some hk
    have:=step_sound (Q:=Q) (K:=wpList P ops Q l) hT hF h hd hfx fun gh' a' w' h'=>opsK_sound hT hF hQ l gh' _ a' w' h' hk
    unfold StepWp at this
    unfold wpList
    split
    · rename_i hw; rw [if_pos hw] at this; exact .inl this
    · rename_i hw; rw [if_neg hw] at this; exact this
theorem mem_tmpsOf {t:Nat}:∀ {l:List Operand},.tmp t∈l→t∈tmpsOf l
  | [],h=>by simp at h
  | x::l,h=>by
    rcases List.mem_cons.1 h with h | h
    · subst h; simp [tmpsOf]
    · have:=mem_tmpsOf h
      cases x <;> simp [tmpsOf,this]
theorem step_like {ops:List Oper} {s s':St} {f:Eff} (ht:∀ t∈readsOf ops o,s'.look t=s.look t) (hk:stepK G run ops o s some=some f) (h:Like s s' f):stepK G run ops o s' some=some f:=by
  have hs:∀ x∈o.op.operands.toList,s.same s' x:=fun x hx t e=>ht t (by
    subst e
    exact List.mem_append_right _ (mem_tmpsOf hx))
  unfold stepK at hk ⊢
  cases hg:o.guard with
  | none =>
    rw [hg] at hk
    exact op_like hs hk h
  | some g =>
    rw [hg] at hk
    simp only at hk ⊢
    refine bind_par hk fun p hp hk=>?_
    have h1:s'.look p.1=s.look p.1:=ht _ (by simp [readsOf,hp])
    rw [h1]
    exact bind_par hk fun b _ hk=>cond_par2 hk (fun _ hk=>op_like hs hk h) fun _ hk=>hk
theorem setAll_ne {α:Type} {d:α} {i:Nat}:∀ (l:List (Nat × α)) (o:List α),i ∉ l.map Prod.fst→(setAll l o).getD i d=o.getD i d
  | [],_,_=>rfl
  | (j,x)::l,o,h=>by
    simp only [List.map_cons,List.mem_cons,not_or] at h
    rw [setAll,setAll_ne l _ h.2]
    simp [List.getD,List.getElem?_set_ne (Ne.symm h.1)]
theorem setAll_set {α:Type} {i:Nat} {y:α}:∀ (l:List (Nat × α)) (o:List α),i ∉ l.map Prod.fst→setAll l (o.set i y)=(setAll l o).set i y
  | [],_,_=>rfl
  | (j,x)::l,o,h=>by
    simp only [List.map_cons,List.mem_cons,not_or] at h
    rw [setAll,setAll,List.set_comm _ _ h.1,setAll_set l _ h.2]
theorem setAll_comm {α:Type}:∀ (l m:List (Nat × α)) (o:List α),(∀ i∈l.map Prod.fst,i ∉ m.map Prod.fst)→setAll m (setAll l o)=setAll l (setAll m o)
  | [],_,_,_=>rfl
  | (i,x)::l,m,o,h=>by
    rw [setAll,setAll,setAll_comm l m _ fun j hj=>h j (by simp only [List.map_cons,List.mem_cons]; exact .inr hj)]
    rw [setAll_set m o (h i (by simp))]
theorem disjN_spec:∀ {l m:List Nat},disjN l m=true→∀ i∈l,i ∉ m
  | [],_,_,i,hi=>by simp at hi
  | x::l,m,h,i,hi=>by
    simp only [disjN,Bool.and_eq_true,Bool.not_eq_true'] at h
    rcases List.mem_cons.1 hi with rfl | hi
    · intro hm
      have:=memN_iff.2 hm
      rw [h.1] at this
      cases this
    · exact disjN_spec h.2 i hi
theorem look_apply {s:St} {f:Eff} {d:Option Nat} {t:Nat} (h:t ∉ d.toList):(f.apply d s).look t=s.look t:=by
  cases d with
  | none=>rfl
  | some d =>
    simp only [Option.toList,List.mem_singleton] at h
    simp [St.look,Eff.apply,List.getD,List.getElem?_set_ne (Ne.symm h)]
theorem like_apply {s:St} {f g:Eff} {d:Option Nat} (ho:∀ i∈g.ro,i ∉ f.ob.map Prod.fst) (hw:∀ i∈g.rw,i ∉ f.ow.map Prod.fst):Like s (f.apply d s) g where
  slot i hi:=setAll_ne _ _ (ho i hi)
  own i hi:=setAll_ne _ _ (hw i hi)
  len:=setAll_len _ _
theorem like_apply' {s:St} {f g:Eff} {d:Option Nat} (ho:∀ i∈g.ro,i ∉ f.ob.map Prod.fst) (hw:∀ i∈g.rw,i ∉ f.ow.map Prod.fst):Like (f.apply d s) s g where
  slot i hi:=(setAll_ne _ _ (ho i hi)).symm
  own i hi:=(setAll_ne _ _ (hw i hi)).symm
  len:=(setAll_len _ _).symm
theorem swap {ops:List Oper} {x y:Oper} {fx fy:Eff} {s:St} (hap:(footOf ops x fx).apart (footOf ops y fy)=true) (hx:stepK G run ops x s some=some fx) (hy:stepK G run ops y (fx.apply x.dst s) some=some fy) :
    stepK G run ops y s some=some fy∧stepK G run ops x (fy.apply y.dst s) some=some fx∧fx.apply x.dst (fy.apply y.dst s)=fy.apply y.dst (fx.apply x.dst s):=by
  simp only [Foot.apart,footOf,Bool.and_eq_true] at hap
  obtain ⟨⟨⟨⟨⟨⟨⟨⟨a1,a2⟩,a3⟩,a4⟩,a5⟩,a6⟩,a7⟩,a8⟩,a9⟩:=hap
  have b1:=disjN_spec a1
  have b2:=disjN_spec a2
  have b3:=disjN_spec a3
  have b4:=disjN_spec a4
  have b5:=disjN_spec a5
  have b6:=disjN_spec a6
  have b7:=disjN_spec a7
  have b8:=disjN_spec a8
  have b9:=disjN_spec a9
  refine ⟨step_like (fun t ht=>(look_apply fun hd=>b1 t hd ht).symm) hy (like_apply' (fun i hi hm=>b4 i hm hi) (fun i hi hm=>b8 i hm hi)),?_,?_⟩
  · exact step_like (fun t ht=>look_apply fun hd=>b2 t ht hd) hx (like_apply (fun i hi=>b5 i hi) (fun i hi=>b7 i hi))
  · simp only [Eff.apply,St.mk.injEq]
    refine ⟨?_,?_,?_⟩
    · revert b3
      cases x.dst with
      | none=>intro _; rfl
      | some d=>cases y.dst with
        | none=>intro _; rfl
        | some d' =>
          intro b3
          exact List.set_comm _ _ fun e=>b3 d (by simp) (by simp [e])
    · exact (setAll_comm _ _ _ b6).symm
    · exact (setAll_comm _ _ _ b9).symm
end Go.Proofs.YtlkkebfjmbfgpaaGreatDoor.Ev
namespace Go.Proofs.YtlkkebfjmbfgpaaGreatDoor.Ev
open Go Go.RowKit
variable {c:Ctx} {P:Program} {G:Env} {run:Run}
structure Item where
  i:Nat
  o:Oper
  f:Eff
def Chain (G:Env) (run:Run) (all:List Oper):St→List Item→St→Prop
  | s,[],e=>s=e
  | s,x::r,e=>dstOk s x.o.dst=true∧stepK G run all x.o s some=some x.f∧Chain G run all (x.f.apply x.o.dst s) r e
def Item.foot (all:List Oper) (x:Item):Foot:=footOf all x.o x.f
theorem dstOk_apply (s:St) (f:Eff) (d d':Option Nat):dstOk (f.apply d s) d'=dstOk s d':=by
  cases d <;> cases d' <;> simp [dstOk,Eff.apply]
theorem Chain.bubble {all:List Oper} {it:Item} {post:List Item} {e:St}:∀ (pre:List Item) (s:St),Chain G run all s (pre++it::post) e→(∀ x∈pre,(x.foot all).apart (it.foot all)=true)→Chain G run all s (it::(pre++post)) e
  | [],_,h,_=>h
  | x::pre,s,h,hap=>by
    obtain ⟨h1,h2,h3⟩:=h
    obtain ⟨k1,k2,k3⟩:=Chain.bubble pre _ h3 fun y hy=>hap y (by simp [hy])
    obtain ⟨m1,m2,m3⟩:=swap (hap x (by simp)) h2 k2
    rw [dstOk_apply] at k1
    refine ⟨k1,m1,?_,m2,?_⟩
    · rw [dstOk_apply]; exact h1
    · rw [m3]; exact k3
theorem unionN_mem {x:Nat}:∀ (a l:List Nat),x∈unionN a l→x∈a∨x∈l
  | [],_,h=>.inr h
  | y::a,l,h=>by
    simp only [unionN] at h
    rcases unionN_mem a _ h with h | h
    · exact .inl (by simp [h])
    · cases hm:memN y l with
      | true=>rw [hm,cond_true] at h; exact .inr h
      | false =>
        rw [hm,cond_false] at h
        rcases List.mem_cons.1 h with h | h
        · exact .inl (by simp [h])
        · exact .inr h
theorem bef_mem {x:Nat} {acc:List (List Nat)}:∀ (es:List Edge) (l:List Nat),x∈es.foldl (fun l e=>bif Region.binds .any e then (bif memN e.on l then l else unionN (e.on::acc.getD e.on []) l) else l) l →
    x∈l∨∃ e∈es,Region.binds .any e=true∧(x=e.on∨x∈acc.getD e.on [])
  | [],l,h=>.inl h
  | e::es,l,h=>by
    rcases bef_mem es _ h with h | ⟨e',he',h⟩
    · simp only at h
      cases hb:Region.binds .any e with
      | false=>rw [hb] at h; exact .inl h
      | true =>
        rw [hb,cond_true] at h
        cases hm:memN e.on l with
        | true=>rw [hm,cond_true] at h; exact .inl h
        | false =>
          rw [hm,cond_false] at h
          rcases unionN_mem _ _ h with h | h
          · rcases List.mem_cons.1 h with h | h
            · exact .inr ⟨e,by simp,hb,.inl h⟩
            · exact .inr ⟨e,by simp,hb,.inr h⟩
          · exact .inl h
    · exact .inr ⟨e',by simp [he'],h⟩
theorem befores_get:∀ (r:List Oper) (acc:List (List Nat)),∃ t,befores r acc=acc++t∧t.length=r.length∧∀ n o,r[n]?=some o→t[n]?=some (befStep (acc++t.take n) o)
  | [],acc=>⟨[],by simp [befores],rfl,by simp⟩
  | o::r,acc=>by
    obtain ⟨t,h1,h2,h3⟩:=befores_get r (acc++[befStep acc o])
    refine ⟨befStep acc o::t,by simp [befores,h1],by simp [h2],fun n o' hn=>?_⟩
    cases n with
    | zero=>simp at hn ⊢; subst hn; rfl
    | succ n =>
      have:=h3 n o' (by simpa using hn)
      simpa using this
theorem bef_spec {all:List Oper} {j x:Nat} {o:Oper} (ho:all[j]?=some o) (hx:x∈(befores all []).getD j []) :
    ∃ e∈o.after.toList,Region.binds .any e=true∧(x=e.on∨x∈(befores all []).getD e.on []):=by
  obtain ⟨t,h1,h2,h3⟩:=befores_get all []
  simp only [List.nil_append] at h1 h3
  rw [h1] at hx ⊢
  rw [List.getD,h3 j o ho] at hx
  rcases bef_mem _ _ hx with h | ⟨e,he,hb,h⟩
  · simp at h
  · refine ⟨e,he,hb,h.imp id fun h=>?_⟩
    simp only [List.getD,List.getElem?_take] at h ⊢
    split at h
    · exact h
    · simp at h
theorem edgesOk_spec:∀ (r:List Oper) (k n:Nat) (o:Oper),edgesOk k r=true→r[n]?=some o→∀ e∈o.after,Region.binds .any e=true→e.on < k+n
  | [],_,_,_,_,h,_,_,_=>by simp at h
  | x::r,k,n,o,h,ho,e,he,hb=>by
    simp only [edgesOk,Bool.and_eq_true,List.all_eq_true] at h
    cases n with
    | zero =>
      simp at ho
      subst ho
      have:=h.1 e (by simpa using he)
      rw [hb] at this
      have h2:Nat.ble (e.on+1) k=true:=by simpa [Nat.blt] using this
      have:=Nat.le_of_ble_eq_true h2
      omega
    | succ n =>
      have:=edgesOk_spec r (k+1) n o h.2 (by simpa using ho) e he hb
      omega
theorem against_spec {f:Foot} {bef:List Nat}:∀ (fs:List Foot) (k:Nat),againstAll f bef fs k=true→∀ (n:Nat) g,fs[n]?=some g→k+n∈bef∨g.apart f=true
  | [],_,_,_,_,h=>by simp at h
  | g::fs,k,h,n,g',hg=>by
    simp only [againstAll,Bool.and_eq_true,Bool.or_eq_true] at h
    cases n with
    | zero =>
      simp at hg
      subst hg
      exact h.1.imp (fun h=>memN_iff.1 h) id
    | succ n =>
      have:=against_spec fs (k+1) h.2 n g' (by simpa using hg)
      rwa [show k+1+n=k+(n+1) by omega] at this
def Apart (all:List Oper) (x y:Item):Prop:=x.i < y.i∧(x.i∈(befores all []).getD y.i []∨(x.foot all).apart (y.foot all)=true)
theorem drawn_chain {all:List Oper} {α:Type} {K:St→Option α} {res:α}:∀ (r:List Oper) (fs:List Foot) (s:St),(∀ n,all[fs.length+n]?=r[n]?)→drawnK G run all r ((befores all []).drop fs.length) fs K s=some res →
    ∃ its e,Chain G run all s its e∧K e=some res∧its.map Item.i=List.range' fs.length r.length∧(∀ x∈its,all[x.i]?=some x.o)∧its.Pairwise (Apart all) ∧
      ∀ x∈its,∀ (n:Nat) g,fs[n]?=some g→n∈(befores all []).getD x.i []∨g.apart (x.foot all)=true
  | [],fs,s,_,h=>⟨[],s,rfl,h,rfl,by simp,.nil,by simp⟩
  | o::r,fs,s,hr,h=>by
    simp only [drawnK] at h
    obtain ⟨hd,h⟩:=cond_some h
    rw [refineK_eq,stepK_cps] at h
    obtain ⟨f,hf,h⟩:=bind_some h
    obtain ⟨hag,h⟩:=cond_some h
    have hl:(fs++[footOf all o f]).length=fs.length+1:=by simp
    obtain ⟨its,e,h1,h2,h3,h4,h5,h6⟩:=drawn_chain r (fs++[footOf all o f]) (f.apply o.dst s)
      (fun n=>by rw [hl,show fs.length+1+n=fs.length+(n+1) by omega,hr (n+1)]; simp) (by rw [hl]; simpa using h)
    have hge:∀ x∈its,fs.length+1≤x.i:=fun x hx=>by
      have:x.i∈its.map Item.i:=List.mem_map_of_mem hx
      rw [h3,hl] at this
      exact (List.mem_range'_1.1 this).1
    refine ⟨⟨fs.length,o,f⟩::its,e,⟨hd,hf,h1⟩,h2,?_,?_,?_,?_⟩
    · simp [h3,List.range'_succ]
    · intro x hx
      rcases List.mem_cons.1 hx with rfl | hx
      · simpa using hr 0
      · exact h4 x hx
    · refine List.pairwise_cons.2 ⟨fun y hy=>⟨hge y hy,?_⟩,h5⟩
      exact h6 y hy fs.length (footOf all o f) (by simp)
    · intro x hx n g hg
      rcases List.mem_cons.1 hx with rfl | hx
      · have:=against_spec fs 0 hag n g hg
        simpa [List.headD_eq_head?_getD,List.head?_drop,List.getD,Item.foot] using this
      · have hn:=(List.getElem?_eq_some_iff.1 hg).1
        exact h6 x hx n g (by rw [List.getElem?_append_left hn]; exact hg)
structure Inv (ops:Array Oper) (listed:Array Bool) (pend:List Item):Prop where
  at_:∀ x∈pend,ops[x.i]?=some x.o
  open_:∀ j,listed.getD j true=false ↔ j∈pend.map Item.i
  shut:∀ j,j ∉ pend.map Item.i→∀ x∈(befores ops.toList []).getD j [],x ∉ pend.map Item.i
  ap:pend.Pairwise (Apart ops.toList)
  size:listed.size=ops.size
theorem getD_lt {l:Array Bool} {j:Nat} (h:j < l.size) (b b':Bool):l.getD j b=l.getD j b':=by simp [h]
theorem any_sound {ops:Array Oper} {Q:Exit→Act→World→Prop} (hT:TyAll P G) (hF:FnsOk P G run) (hE:edgesOk 0 ops.toList=true) {e:St}
    (hQ:∀ gh' a' w',Rel c gh' e a' w'→Q .normal a' w') :
    ∀ (fuel:Nat) (pend:List Item) (listed:Array Bool) (gh:Ghost) (s:St) (a:Act) (w:World),Rel c gh s a w→Chain G run ops.toList s pend e→pend.length≤fuel→Inv ops listed pend →
      wpAny P .any ops Q fuel listed a w:=by
  have noReady:∀ {listed:Array Bool},Inv ops listed []→Region.ready .any ops listed=[]:=fun {listed} inv=>by
    refine List.eq_nil_iff_forall_not_mem.2 fun j hj=>?_
    have:=(inv.open_ j).1 (mem_ready.1 hj).1
    simp at this
  intro fuel
  induction fuel with
  | zero =>
    intro pend listed gh s a w h hc hl inv
    have hp:pend=[]:=List.length_eq_zero_iff.1 (by omega)
    subst hp
    cases hc
    exact ⟨noReady inv,hQ _ _ _ h⟩
  | succ fuel ih =>
    intro pend listed gh s a w h hc hl inv
    refine ⟨fun hr=>?_,fun j hj=>?_⟩
    · cases pend with
      | nil=>cases hc; exact hQ _ _ _ h
      | cons x pend =>
        exfalso
        have hx:=inv.at_ x (by simp)
        have hxs:x.i < ops.size:=(Array.getElem?_eq_some_iff.1 hx).1
        have:x.i∈Region.ready .any ops listed:=by
          refine mem_ready.2 ⟨(inv.open_ _).2 (by simp),x.o,hx,fun ed hed hb=>?_⟩
          have hlt:=edgesOk_spec ops.toList 0 x.i x.o hE (by simpa using hx) ed hed hb
          rw [Nat.zero_add] at hlt
          have hno:ed.on ∉ (x::pend).map Item.i:=fun hm=>by
            rcases List.mem_cons.1 hm with hm | hm
            · omega
            · obtain ⟨y,hy,hy'⟩:=List.mem_map.1 hm
              have:=((List.pairwise_cons.1 inv.ap).1 y hy).1
              omega
          have h1:listed.getD ed.on true≠false:=fun h=>hno ((inv.open_ _).1 h)
          rw [getD_lt (by rw [inv.size]; omega) false true]
          simpa using h1
        rw [hr] at this
        cases this
    · obtain ⟨hun,o,ho,hall⟩:=mem_ready.1 hj
      obtain ⟨it,hit,hij⟩:=List.mem_map.1 ((inv.open_ j).1 hun)
      subst hij
      have hio:it.o=o:=by
        have:=inv.at_ it hit
        rw [ho] at this
        exact (Option.some.inj this).symm
      subst hio
      have shutE:∀ ed∈it.o.after,Region.binds .any ed=true→ed.on ∉ pend.map Item.i:=fun ed hed hb hm=>by
        have h1:=hall ed hed hb
        have h2:=(inv.open_ ed.on).2 hm
        have h3:ed.on < listed.size:=by
          rcases Nat.lt_or_ge ed.on listed.size with h' | h'
          · exact h'
          · simp [Array.getElem?_eq_none h'] at h1
        rw [getD_lt h3 false true,h2] at h1
        cases h1
      have shutB:∀ x∈(befores ops.toList []).getD it.i [],x ∉ pend.map Item.i:=fun x hx=>by
        obtain ⟨ed,hed,hb,h1⟩:=bef_spec (by simpa using ho) hx
        have h2:=shutE ed (by simpa using hed) hb
        rcases h1 with rfl | h1
        · exact h2
        · exact inv.shut _ h2 x h1
      obtain ⟨pre,post,hpend⟩:=List.append_of_mem hit
      have hsub:(pre++post).Sublist pend:=by
        rw [hpend]
        exact List.Sublist.append (List.Sublist.refl _) (List.sublist_cons_self _ _)
      have hap:=inv.ap
      rw [hpend] at hap hc
      obtain ⟨hap1,hap2,hap3⟩:=List.pairwise_append.1 hap
      have hbub:=Chain.bubble pre s hc fun x hx=>by
        have h1:=hap3 x hx it (by simp)
        rcases h1.2 with h2 | h2
        · exact absurd (List.mem_map_of_mem (by rw [hpend]; simp [hx])) (shutB _ h2)
        · exact h2
      obtain ⟨k1,k2,k3⟩:=hbub
      have hnot:it.i ∉ (pre++post).map Item.i:=fun hm=>by
        obtain ⟨y,hy,hy'⟩:=List.mem_map.1 hm
        rcases List.mem_append.1 hy with hy | hy
        · have:=(hap3 y hy it (by simp)).1
          omega
        · have:=((List.pairwise_cons.1 hap2).1 y hy).1
          omega
      have hmem:∀ i,i∈pend.map Item.i ↔ i=it.i∨i∈(pre++post).map Item.i:=fun i=>by
        rw [hpend]
        simp only [List.map_append,List.map_cons,List.mem_append,List.mem_cons]
        constructor
        · rintro (h | h | h)
          · exact .inr (.inl h)
          · exact .inl h
          · exact .inr (.inr h)
        · rintro (h | h | h)
          · exact .inr (.inl h)
          · exact .inl h
          · exact .inr (.inr h)
      have inv':Inv ops (listed.setIfInBounds it.i true) (pre++post):=by
        refine ⟨fun x hx=>inv.at_ x (hsub.subset hx),fun i=>?_,fun i hi x hx hm=>?_,inv.ap.sublist hsub,by simp [inv.size]⟩
        · by_cases hi:it.i=i
          · subst hi
            have hlt:it.i < listed.size:=by rw [inv.size]; exact (Array.getElem?_eq_some_iff.1 ho).1
            constructor
            · intro h; simp [hlt] at h
            · intro h; exact absurd h hnot
          · rw [getD_set_ne true hi,inv.open_,hmem]
            constructor
            · rintro (h | h)
              · exact absurd h.symm hi
              · exact h
            · exact .inr
        · have hm':x∈pend.map Item.i:=(hmem x).2 (.inr hm)
          by_cases hii:i=it.i
          · subst hii; exact shutB x hx hm'
          · exact inv.shut i (fun h=>((hmem i).1 h).elim hii hi) x hx hm'
      have:=step_sound (Q:=Q) (K:=wpAny P .any ops Q fuel (listed.setIfInBounds it.i true)) hT hF h k1 k2 fun gh' a' w' h' =>
        ih (pre++post) _ gh' _ a' w' h' k3 (by rw [hpend] at hl; simp at hl ⊢; omega) inv'
      unfold StepWp at this
      unfold wpOp
      rw [ho]
      simp only
      split
      · rename_i hw; rw [if_pos hw] at this; exact .inl this
      · rename_i hw; rw [if_neg hw] at this; exact this
theorem Rel.drawn {gh:Ghost} {s:St} {a:Act} {w:World} (h:Rel c gh s a w) (n:Nat):Rel c gh s a { w with drawn:=n }:=by
  have hk:∀ (B:Nat) (ex:List Nat) (w0:World),Keep B ex w0 w→Keep B ex w0 { w with drawn:=n }:=fun _ _ _ k=>⟨k.os,k.tape,k.output,k.size,k.block⟩
  exact { h with keep:=hk _ _ _ h.keep,agree:=h.agree,objs:=h.objs,owns:=h.owns,fix:=h.fix }
theorem drawnK_sound {ops:Array Oper} {Q:Exit→Act→World→Prop} {α:Type} {K:St→Option α} {r:α} {id:Nat} {gh:Ghost} {s:St} {a:Act} {w:World} (hT:TyAll P G) (hF:FnsOk P G run)
    (hQ:∀ s' gh' a' w',Rel c gh' s' a' w'→K s'=some r→Q .normal a' w') (h:Rel c gh s a w) (hE:edgesOk 0 ops.toList=true)
    (hk:drawnK G run ops.toList ops.toList (befores ops.toList []) [] K s=some r):(Code.region id ops true).wp P Q a w:=by
  obtain ⟨its,e,h1,h2,h3,h4,h5,_⟩:=drawn_chain (all:=ops.toList) ops.toList [] s (by simp) hk
  refine wp_region_any hT.mixed (any_sound hT hF hE (fun gh' a' w' h'=>hQ e gh' a' w' h' h2) ops.size its _ gh s a _ (h.drawn _) h1 ?_ ?_)
  · have:=congrArg List.length h3
    simp at this
    omega
  · refine ⟨fun x hx=>by simpa using h4 x hx,fun j=>?_,fun j hj x hx hm=>?_,h5,by simp⟩
    · rw [h3]
      by_cases hj:j < ops.size
      · simp [List.mem_range'_1,hj]
      · simp [List.mem_range'_1,hj]
    · rw [h3] at hj
      have hj':(befores ops.toList []).length≤j:=by
        obtain ⟨t,e1,e2,_⟩:=befores_get ops.toList []
        rw [e1]
        simp at hj
        simp [e2]
        simpa [List.mem_range'_1] using hj
      simp [List.getD,List.getElem?_eq_none hj'] at hx
end Go.Proofs.YtlkkebfjmbfgpaaGreatDoor.Ev
namespace Go.Proofs.YtlkkebfjmbfgpaaGreatDoor.Ev
open Go Go.RowKit
variable {c:Ctx} {gh:Ghost} {s:St} {a:Act} {w:World} {P:Program} {G:Env} {run:Run}
theorem clearO_get {ko:List Nat}:∀ (l:List OSlot) (k n:Nat),(clearO ko k l)[n]?=(l[n]?).map fun o=>bif memN (k+n) ko then o else ⟨0,none⟩
  | [],_,_=>by simp [clearO]
  | e::l,k,n=>by
    cases n with
    | zero=>simp [clearO]
    | succ n=>simp only [clearO,List.getElem?_cons_succ]; rw [clearO_get l (k+1) n,show k+1+n=k+(n+1) by omega]
theorem clearT_len {ks ko:List Nat}:∀ (l:List Ent) (used:List Nat) (k:Nat),(clearT s ks ko used k l).length=l.length
  | [],_,_=>rfl
  | e::l,used,k=>by
    simp only [clearT]
    cases memN k ks
    · simp [clearT_len l used (k+1)]
    · simp only [cond_true]
      split <;> simp [clearT_len l _ (k+1)]
theorem clearO_len {ko:List Nat}:∀ (l:List OSlot) (k:Nat),(clearO ko k l).length=l.length
  | [],_=>rfl
  | e::l,k=>by simp [clearO,clearO_len l (k+1)]
def ownAt (s:St) (ks:List Nat):List Nat→Nat→List Ent→Nat→Option (Ty × Nat × AV)
  | _,_,[],_=>none
  | used,i,e::r,t=>match memN i ks,e.owned s used with
    | true,some z=>if t=i then some z else ownAt s ks (z.2.1::used) (i+1) r t
    | _,_=>ownAt s ks used (i+1) r t
theorem ownAt_ge {ks:List Nat}:∀ (l:List Ent) (used:List Nat) (i t:Nat) z,ownAt s ks used i l t=some z→i≤t
  | [],_,_,_,_,h=>by cases h
  | e::l,used,i,t,z,h=>by
    simp only [ownAt] at h
    split at h
    · split at h
      · omega
      · have:=ownAt_ge l _ _ _ _ h; omega
    · have:=ownAt_ge l _ _ _ _ h; omega
theorem owned_some {e:Ent} {used:List Nat} {z:Ty × Nat × AV} (h:e.owned s used=some z):∃ n,e=.val z.1 (some (z.2.1,n)) z.2.2∧s.own z.2.1=n∧z.2.1 ∉ used:=by
  unfold Ent.owned at h
  split at h
  · obtain ⟨hb,h⟩:=cond_some h
    simp only [Bool.and_eq_true,Bool.not_eq_true'] at hb
    cases h
    exact ⟨_,rfl,Nat.eq_of_beq_eq_true hb.1,fun hm=>by rw [memN_iff.2 hm] at hb; cases hb.2.2⟩
  · cases h
theorem ownAt_spec {ks:List Nat}:∀ (l:List Ent) (used:List Nat) (i t:Nat) z,ownAt s ks used i l t=some z→(∃ n,l[t-i]?=some (.val z.1 (some (z.2.1,n)) z.2.2)∧s.own z.2.1=n)∧z.2.1 ∉ used
  | [],_,_,_,_,h=>by cases h
  | e::l,used,i,t,z,h=>by
    simp only [ownAt] at h
    split at h
    · rename_i z' _ ho
      split at h
      · cases h
        obtain ⟨n,h1,h2,h3⟩:=owned_some ho
        exact ⟨⟨n,by rename_i e'; rw [e',Nat.sub_self]; simp [h1],h2⟩,h3⟩
      · have hge:=ownAt_ge l _ _ _ _ h
        obtain ⟨⟨n,h1,h2⟩,h3⟩:=ownAt_spec l _ _ _ _ h
        refine ⟨⟨n,?_,h2⟩,fun hm=>h3 (by simp [hm])⟩
        rw [show t-i=(t-(i+1))+1 by omega]
        simpa using h1
    · have hge:=ownAt_ge l _ _ _ _ h
      obtain ⟨⟨n,h1,h2⟩,h3⟩:=ownAt_spec l _ _ _ _ h
      refine ⟨⟨n,?_,h2⟩,h3⟩
      rw [show t-i=(t-(i+1))+1 by omega]
      simpa using h1
theorem ownAt_inj {ks:List Nat}:∀ (l:List Ent) (used:List Nat) (i t t':Nat) z z',ownAt s ks used i l t=some z→ownAt s ks used i l t'=some z'→z.2.1=z'.2.1→t=t'
  | [],_,_,_,_,_,_,h,_,_=>by cases h
  | e::l,used,i,t,t',z,z',h,h',he=>by
    simp only [ownAt] at h h'
    split at h
    · rename_i z0 hm ho
      rw [hm,ho] at h'
      simp only at h'
      split at h <;> split at h'
      · omega
      · cases h
        have h3:=(ownAt_spec l _ _ _ _ h').2
        rw [← he] at h3
        simp at h3
      · cases h'
        have h3:=(ownAt_spec l _ _ _ _ h).2
        rw [he] at h3
        simp at h3
      · exact ownAt_inj l _ _ _ _ _ _ h h' he
    · rename_i hno
      split at h'
      · rename_i z0 hm ho
        exact (hno z0 hm ho).elim
      · exact ownAt_inj l _ _ _ _ _ _ h h' he
theorem clearT_get {ks ko:List Nat}:∀ (l:List Ent) (used:List Nat) (k n:Nat) (e:Ent),l[n]?=some e →
    (clearT s ks ko used k l)[n]?=some .any∨(clearT s ks ko used k l)[n]?=some (e.fit s ko)∨∃ z,ownAt s ks used k l (k+n)=some z∧(clearT s ks ko used k l)[n]?=some (.val z.1 (some (k+n,0)) z.2.2)
  | [],_,_,_,_,h=>by simp at h
  | e0::l,used,k,n,e,h=>by
    simp only [clearT,ownAt]
    cases hm:memN k ks with
    | false =>
      cases n with
      | zero =>
        simp at h
        subst h
        cases memN (k+1000000) ks
        · exact .inl (by simp)
        · exact .inr (.inl (by simp))
      | succ n =>
        have:=clearT_get (ks:=ks) (ko:=ko) l used (k+1) n e (by simpa using h)
        rw [show k+1+n=k+(n+1) by omega] at this
        simpa using this
    | true =>
      simp only [cond_true]
      cases ho:e0.owned s used with
      | none =>
        cases n with
        | zero=>simp at h; subst h; exact .inr (.inl (by simp))
        | succ n =>
          have:=clearT_get (ks:=ks) (ko:=ko) l used (k+1) n e (by simpa using h)
          rw [show k+1+n=k+(n+1) by omega] at this
          simpa using this
      | some z =>
        obtain ⟨t,g,x⟩:=z
        cases n with
        | zero=>exact .inr (.inr ⟨(t,g,x),by simp,by simp⟩)
        | succ n =>
          have:=clearT_get (ks:=ks) (ko:=ko) l (g::used) (k+1) n e (by simpa using h)
          rw [show k+1+n=k+(n+1) by omega] at this
          simp only [List.getElem?_cons_succ]
          rw [if_neg (by omega)]
          exact this
theorem clear_look (ks ko:List Nat) (t:Nat):(s.clear ks ko).look t=.any∨(s.clear ks ko).look t=(s.look t).fit s ko∨∃ z,ownAt s ks [] 0 s.tmps t=some z∧(s.clear ks ko).look t=.val z.1 (some (t,0)) z.2.2:=by
  simp only [St.look,St.clear,List.getD]
  cases h:s.tmps[t]? with
  | none =>
    refine .inl ?_
    rw [List.getElem?_eq_none (by rw [clearT_len]; exact List.getElem?_eq_none_iff.1 h)]
    rfl
  | some e =>
    rcases clearT_get (ks:=ks) (ko:=ko) s.tmps [] 0 t e h with h1 | h1 | ⟨z,h1,h2⟩
    · exact .inl (by rw [h1]; rfl)
    · exact .inr (.inl (by rw [h1]; rfl))
    · rw [Nat.zero_add] at h1 h2
      exact .inr (.inr ⟨z,h1,by rw [h2]; rfl⟩)
theorem clear_slot (ks ko:List Nat) (i:Nat):(s.clear ks ko).slot i=bif memN i ko then s.slot i else ⟨0,none⟩:=by
  simp only [St.slot,St.clear,List.getD,clearO_get,Nat.zero_add]
  cases s.objs[i]? with
  | none=>cases memN i ko <;> rfl
  | some o=>rfl
theorem clear_ob {ks ko:List Nat} {i:Nat} {ob:Ob} (h:((s.clear ks ko).slot i).ob=some ob):(s.clear ks ko).slot i=s.slot i∧(s.slot i).ob=some ob:=by
  rw [clear_slot] at h ⊢
  cases hm:memN i ko with
  | true=>rw [hm] at h; exact ⟨rfl,h⟩
  | false=>rw [hm] at h; cases h
theorem PtRel.clear {gh':Ghost} {ks ko:List Nat} {p:Pt} {v:Value} (h:PtRel gh s p v) (he:gh'.m=gh.m) (hm:memN p.id ko=true):PtRel gh' (s.clear ks ko) p v:=by
  unfold PtRel at h ⊢
  rw [clear_slot,hm,he]
  exact h
theorem EntRel.fit {gh':Ghost} {ks ko:List Nat} {e:Ent} {v:Value} (h:EntRel gh s e v) (hS:gh'.S=gh.S) (hm':gh'.m=gh.m):EntRel gh' (s.clear ks ko) (e.fit s ko) v:=by
  cases e with
  | any=>trivial
  | undef=>exact h
  | «at» t x=>simp only [Ent.fit,EntRel] at h ⊢; rw [hS]; exact h
  | tup l=>simp only [Ent.fit,EntRel] at h ⊢; rw [hS]; exact h
  | val t g x=>exact ⟨by rw [hS]; exact h.1,fun g' n e=>by cases e⟩
  | ptr p =>
    simp only [Ent.fit]
    cases hb:(Nat.beq (s.slot p.id).gen p.gen&&memN p.id ko) with
    | false=>trivial
    | true =>
      simp only [Bool.and_eq_true] at hb
      exact PtRel.clear h hm' hb.2
  | ref p lo hi =>
    simp only [Ent.fit]
    cases hb:(Nat.beq (s.slot p.id).gen p.gen&&memN p.id ko) with
    | false=>trivial
    | true =>
      simp only [Bool.and_eq_true] at hb
      simp only [cond_true,EntRel,RefRel] at h ⊢
      rw [clear_slot,hb.2,hm']
      exact h
  | clo f caps =>
    simp only [Ent.fit]
    cases hb:(caps.all fun p=>Nat.beq (s.slot p.id).gen p.gen&&memN p.id ko) with
    | false=>trivial
    | true =>
      rw [List.all_eq_true] at hb
      obtain ⟨vs,h1,h2,h3⟩:=h
      refine ⟨vs,h1,h2,fun i p u e1 e2=>(h3 i p u e1 e2).clear hm' ?_⟩
      have:=hb p (List.mem_of_getElem? e1)
      simp only [Bool.and_eq_true] at this
      exact this.2
def Ghost.renamed (gh:Ghost) (s:St) (ks:List Nat):Ghost :=
  { gh with τ:=fun t=>match ownAt s ks [] 0 s.tmps t with | some z=>gh.τ z.2.1 | none=>.slice none 0 0,z:=fun t=>match ownAt s ks [] 0 s.tmps t with | some z=>gh.z z.2.1 | none=>0 }
theorem renamed_block {ks:List Nat} {t b:Nat} (h:((gh.renamed s ks).τ t).ownBlock=some b):∃ z,ownAt s ks [] 0 s.tmps t=some z∧(gh.τ z.2.1).ownBlock=some b:=by
  simp only [Ghost.renamed] at h
  split at h
  · rename_i z hz
    exact ⟨z,hz,h⟩
  · cases h
theorem Rel.clear (h:Rel c gh s a w) (ks ko:List Nat):Rel c (gh.renamed s ks) (s.clear ks ko) a w where
  keep:=h.keep
  size:=h.size
  le:=h.le
  new:=h.new
  agree:=h.agree
  ntm:=by simp [St.clear,clearT_len,h.ntm]
  nob:=by simp [St.clear,clearT_len,clearO_len,h.nob]
  now:=by simp [St.clear,clearT_len,h.now]
  defers:=h.defers
  tmps:=fun t=>by
    rcases clear_look (s:=s) ks ko t with e | e | ⟨z,hz,e⟩
    · rw [e]; trivial
    · rw [e]; exact (h.tmps t).fit rfl rfl
    · rw [e]
      obtain ⟨⟨n,h1,h2⟩,_⟩:=ownAt_spec _ _ _ _ _ hz
      have h3:=h.tmps t
      have hl:s.look t=.val z.1 (some (z.2.1,n)) z.2.2:=by
        simp only [Nat.sub_zero] at h1
        simp [St.look,List.getD,h1]
      rw [hl] at h3
      obtain ⟨q1,q2⟩:=h3
      obtain ⟨q3,q4⟩:=(q2 _ _ rfl).2 h2.symm
      refine ⟨q1,fun g' n' he=>?_⟩
      simp only [Option.some.injEq,Prod.mk.injEq] at he
      obtain ⟨rfl,rfl⟩:=he
      refine ⟨Nat.zero_le _,fun _=>?_⟩
      simp only [Ghost.renamed,hz]
      exact ⟨q3,q4⟩
  objs:=fun id ob ho=>h.objs id ob (clear_ob ho).2
  minj:=fun i j oi oj h1 h2 e=>h.minj i j oi oj (clear_ob h1).2 (clear_ob h2).2 e
  owns:=fun t=>by
    simp only [Ghost.renamed]
    cases hz:ownAt s ks [] 0 s.tmps t with
    | none=>exact .inl rfl
    | some z=>exact h.owns _
  odist:=fun g g' b h1 h2=>by
    obtain ⟨z,hz,h1⟩:=renamed_block h1
    obtain ⟨z',hz',h2⟩:=renamed_block h2
    exact ownAt_inj _ _ _ _ _ _ _ hz hz' (h.odist _ _ b h1 h2)
  mo:=fun id ob g b h1 h2=>by
    obtain ⟨z,hz,h2⟩:=renamed_block h2
    exact h.mo id ob _ b (clear_ob h1).2 h2
  fix:=fun k b h1 h2 ob h3=>by
    obtain ⟨e1,e2⟩:=clear_ob h3
    rw [e1] at h2
    exact h.fix k b h1 h2 ob e2
def Ex.out:Ex→Exit
  | .normal=>.normal
  | .exit id=>.exit id
  | .ret=>.ret
  | .goto l=>.goto l
theorem exists_least {p:Nat→Prop} (h:∃ n,p n):∃ n,p n∧∀ m,p m→n≤m:=by
  obtain ⟨n,hn⟩:=h
  induction n using Nat.strongRecOn with
  | _ n ih =>
    by_cases hm:∃ m,m < n∧p m
    · obtain ⟨m,h1,h2⟩:=hm
      exact ih m h1 h2
    · exact ⟨n,hn,fun m hp=>Nat.le_of_not_lt fun hlt=>hm ⟨m,hlt,hp⟩⟩
open Classical in
noncomputable def least (p:Nat→Prop):Nat:=if h:∃ n,p n then Classical.choose (exists_least h) else 0
theorem least_spec {p:Nat→Prop} (h:∃ n,p n):p (least p)∧∀ m,p m→least p≤m:=by
  unfold least
  rw [dif_pos h]
  exact Classical.choose_spec (exists_least h)
theorem Rel.meet {α:Type} {r:α} {f:St→Option α} (h:Rel c gh s a w) (keep:List (Nat × (List Nat × List Nat))) (id:Option Nat) {n:Nat} (hk:meetAt n keep id f s=some r):∃ gh' s',Rel c gh' s' a w∧f s'=some r:=by
  unfold meetAt at hk
  split at hk
  · split at hk
    · unfold meetK at hk
      split at hk
      · cases hk
      · exact ⟨_,_,h.clear _ _,hk⟩
    · exact ⟨gh,s,h,hk⟩
  · exact ⟨gh,s,h,hk⟩
theorem wpC_mono {c:Code} {Q Q':Exit→Act→World→Prop} {a:Act} {w:World} (h:c.wp P Q a w) (hq:∀ e a w,Q e a w→Q' e a w):c.wp P Q' a w:=fun b k cs=>by
  obtain ⟨e,a',w',h1,h2⟩:=h b k cs
  exact ⟨e,a',w',hq e a' w' h1,h2⟩
theorem scopeK_some {α:Type} {r:α} {n:Nat} {keep:List (Nat × (List Nat × List Nat))} {c:Code} {b:Nat} {K:Ex→St→Option α} {s:St} (hk:evalK G run n keep b (.scope c) K s=some r) :
    ∃ (x:Code) (l:Nat) (d:Code) (ks:List Nat × List Nat),c=.seq x (.seq (.label l) d)∧findLabel x l=none∧evalK G run n keep b x (aheadK (fun s'=>roundK (evalK G run n keep b d) l ks.1 ks.2 K n (s'.clear ks.1 ks.2)) K) s=some r:=by
  rw [evalK.eq_def] at hk
  split at hk <;> rename_i he <;> first | (cases he; done) | skip
  · cases he
    obtain ⟨ks,_,hk⟩:=bind_some hk
    obtain ⟨hf,hk⟩:=cond_some hk
    exact ⟨_,_,_,ks,rfl,by simpa using hf,hk⟩
  · cases hk
theorem evalK_sound {α:Type} {r:α} (hT:TyAll P G) (hF:FnsOk P G run) (n:Nat) (keep:List (Nat × (List Nat × List Nat))) :
    ∀ (code:Code) (b:Nat) (K:Ex→St→Option α) (Q:Exit→Act→World→Prop) (gh:Ghost) (s:St) (a:Act) (w:World),Rel c gh s a w→evalK G run n keep b code K s=some r →
      (∀ ex s' gh' a' w',Rel c gh' s' a' w'→K ex s'=some r→Q ex.out a' w')→code.wp P Q a w
  | .skip,b,K,Q,gh,s,a,w,h,hk,hQ=>wp_skip (hQ .normal s gh a w h hk)
  | .region id ops draw,b,K,Q,gh,s,a,w,h,hk,hQ=>by
    simp only [evalK] at hk
    cases draw with
    | true =>
      rw [cond_true] at hk
      obtain ⟨hE,hk⟩:=cond_some hk
      exact drawnK_sound hT hF (fun s' gh' a' w' h' hk'=>hQ .normal s' gh' a' w' h' hk') h hE hk
    | false =>
      rw [cond_false] at hk
      exact wp_region_list (opsK_sound hT hF (fun s' gh' a' w' h' hk'=>hQ .normal s' gh' a' w' h' hk') ops.toList gh _ a w h hk)
  | .seq x y,b,K,Q,gh,s,a,w,h,hk,hQ=>by
    simp only [evalK] at hk
    refine wp_seq (evalK_sound hT hF n keep x b _ _ gh s a w h hk fun ex s' gh' a' w' h' hk'=>?_)
    cases ex with
    | normal =>
      obtain ⟨gh',s',h',hk'⟩:=h'.meet keep _ hk'
      exact evalK_sound hT hF n keep y b K Q gh' s' a' w' h' hk' hQ
    | exit id=>exact hQ (.exit id) s' gh' a' w' h' hk'
    | ret=>exact hQ .ret s' gh' a' w' h' hk'
    | goto l=>exact hQ (.goto l) s' gh' a' w' h' hk'
  | .cond x y z,b,K,Q,gh,s,a,w,h,hk,hQ=>by
    simp only [evalK] at hk
    obtain ⟨v,hv,hk⟩:=bind_some hk
    obtain ⟨t,ht,rfl⟩:=(h.opv hv).bool
    refine wp_cond ht ?_
    cases t with
    | true=>exact evalK_sound hT hF n keep y b K Q gh s a w h hk hQ
    | false=>exact evalK_sound hT hF n keep z b K Q gh s a w h hk hQ
  | .block id x,b,K,Q,gh,s,a,w,h,hk,hQ=>by
    simp only [evalK] at hk
    refine wp_block (evalK_sound hT hF n keep x id _ _ gh s a w h hk fun ex s' gh' a' w' h' hk'=>?_)
    cases ex with
    | normal=>exact hQ .normal s' gh' a' w' h' hk'
    | exit id' =>
      simp only [Ex.out,Exit.inBlock]
      simp only [blockK] at hk'
      by_cases he:id'=id
      · rw [if_pos he]
        rw [he,show Nat.beq id id=true from Nat.beq_refl id,cond_true] at hk'
        exact hQ .normal s' gh' a' w' h' hk'
      · rw [if_neg he]
        have:Nat.beq id' id=false:=by
          cases hb:Nat.beq id' id with
          | false=>rfl
          | true=>exact absurd (Nat.eq_of_beq_eq_true hb) he
        rw [this,cond_false] at hk'
        exact hQ (.exit id') s' gh' a' w' h' hk'
    | ret=>exact hQ .ret s' gh' a' w' h' hk'
    | goto l=>exact hQ (.goto l) s' gh' a' w' h' hk'
  | .loop x,b,K,Q,gh,s,a,w,h,hk,hQ=>by
    simp only [evalK] at hk
    obtain ⟨ks,_,hk⟩:=bind_some hk
    let J:Act→World→Nat→Prop:=fun a w m=>∃ s gh,Rel c gh s a w∧iterK (evalK G run n keep b x) ks.1 ks.2 K m s=some r
    refine wp_loop (fun a w=>∃ m,J a w m) (fun a w=>least (J a w)) ⟨n,_,_,h.clear ks.1 ks.2,hk⟩ fun a w hI=>?_
    obtain ⟨⟨s,gh,h,hk⟩,_⟩:=least_spec hI
    generalize hm:least (J a w)=m at hk
    cases m with
    | zero=>cases hk
    | succ m =>
      simp only [iterK] at hk
      refine evalK_sound hT hF n keep x b _ _ gh _ a w h hk fun ex s' gh' a' w' h' hk'=>?_
      cases ex with
      | normal =>
        have hJ:J a' w' m:=⟨_,_,h'.clear ks.1 ks.2,hk'⟩
        refine ⟨⟨m,hJ⟩,?_⟩
        have:=(least_spec ⟨m,hJ⟩).2 m hJ
        exact Nat.lt_succ_of_le this
      | exit id=>exact hQ (.exit id) s' gh' a' w' h' hk'
      | ret=>exact hQ .ret s' gh' a' w' h' hk'
      | goto l=>exact hQ (.goto l) s' gh' a' w' h' hk'
  | .exit id,b,K,Q,gh,s,a,w,h,hk,hQ=>wp_exit (hQ (.exit id) s gh a w h hk)
  | .ret,b,K,Q,gh,s,a,w,h,hk,hQ=>wp_ret (hQ .ret s gh a w h hk)
  | .rangeFunc _ _ _ _,_,_,_,_,_,_,_,_,hk,_=>by cases hk
  | .scope x,b,K,Q,gh,s,a,w,h,hk,hQ=>by
    obtain ⟨y,l,d,ks,hc,hf,hk⟩:=scopeK_some hk
    have hy:SizeOf.sizeOf y < SizeOf.sizeOf (Code.scope x):=by rw [hc]; simp only [Code.scope.sizeOf_spec,Code.seq.sizeOf_spec]; omega
    have hd:SizeOf.sizeOf d < SizeOf.sizeOf (Code.scope x):=by rw [hc]; simp only [Code.scope.sizeOf_spec,Code.seq.sizeOf_spec]; omega
    let J:Act→World→Nat→Prop:=fun a w m=>∃ s gh,Rel c gh s a w∧roundK (evalK G run n keep b d) l ks.1 ks.2 K m s=some r
    have pass:∀ (m:Nat) (a:Act) (w:World),J a w m→d.wp P (Exit.jump l (fun a' w'=>∃ m',m' < m∧J a' w' m') Q) a w:=by
      intro m a w hJ
      obtain ⟨s,gh,h,hk⟩:=hJ
      cases m with
      | zero=>cases hk
      | succ m =>
        simp only [roundK] at hk
        refine evalK_sound hT hF n keep d b _ _ gh s a w h hk fun ex s' gh' a' w' h' hk'=>?_
        cases ex with
        | normal=>exact hQ .normal s' gh' a' w' h' hk'
        | exit id=>exact hQ (.exit id) s' gh' a' w' h' hk'
        | ret=>exact hQ .ret s' gh' a' w' h' hk'
        | goto l' =>
          simp only [jumpK] at hk'
          obtain ⟨hb,hk'⟩:=cond_some hk'
          exact ⟨Nat.eq_of_beq_eq_true hb,m,Nat.lt_succ_self m,_,_,h'.clear ks.1 ks.2,hk'⟩
    refine wp_scope_jumps (rest:=.seq .skip d) l (fun a w=>∃ m,J a w m) (fun a w=>least (J a w)) (by rw [hc]; simp [findLabel,hf]) ?_ ?_
    · rw [hc]
      refine wp_seq (evalK_sound hT hF n keep y b _ _ gh s a w h hk fun ex s' gh' a' w' h' hk'=>?_)
      cases ex with
      | normal =>
        refine wp_seq (wp_label ?_)
        refine wpC_mono (pass n a' w' ⟨_,_,h'.clear ks.1 ks.2,hk'⟩) ?_
        intro e a2 w2 hp
        cases e with
        | goto l'=>exact ⟨hp.1,hp.2.imp fun _ h=>h.2⟩
        | _=>exact hp
      | exit id=>exact hQ (.exit id) s' gh' a' w' h' hk'
      | ret=>exact hQ .ret s' gh' a' w' h' hk'
      | goto l'=>cases hk'
    · intro a w hJ
      refine wp_seq (wp_skip ?_)
      have h0:=(least_spec hJ).1
      refine wpC_mono (pass _ a w h0) ?_
      intro e a2 w2 hp
      cases e with
      | goto l' =>
        obtain ⟨e1,m',hm,hJ'⟩:=hp
        exact ⟨e1,⟨m',hJ'⟩,Nat.lt_of_le_of_lt ((least_spec ⟨m',hJ'⟩).2 m' hJ') hm⟩
      | _=>exact hp
  | .label _,_,_,_,_,_,_,_,_,hk,_=>by cases hk
  | .goto l,b,K,Q,gh,s,a,w,h,hk,hQ=>wp_goto (hQ (.goto l) s gh a w h hk)
  | .refuse _,_,_,_,_,_,_,_,_,hk,_=>by cases hk
termination_by code=>SizeOf.sizeOf code
end Go.Proofs.YtlkkebfjmbfgpaaGreatDoor.Ev
namespace Go.Proofs.YtlkkebfjmbfgpaaGreatDoor.Ev
open Go Go.RowKit
variable {c:Ctx} {gh:Ghost} {s:St} {a:Act} {w:World} {P:Program} {G:Env} {run:Run}
def fixOf:Nat→List PTy→List Nat→Nat→Option Nat
  | _,[],_,_=>none
  | k,.val _::ts,bs,j=>fixOf (k+1) ts bs j
  | k,.ptr _::ts,bs,j=>match bs with
    | []=>none
    | b::bs=>if j=k then some b else fixOf (k+1) ts bs j
theorem fixOf_mem:∀ (k:Nat) (ts:List PTy) (bs:List Nat) (j b:Nat),fixOf k ts bs j=some b→k≤j∧b∈bs
  | _,[],_,_,_,h=>by simp [fixOf] at h
  | k,.val _::ts,bs,j,b,h=>by
    have:=fixOf_mem (k+1) ts bs j b h
    exact ⟨by omega,this.2⟩
  | k,.ptr _::ts,[],j,b,h=>by simp [fixOf] at h
  | k,.ptr _::ts,b0::bs,j,b,h=>by
    simp only [fixOf] at h
    split at h
    · cases h; exact ⟨by omega,by simp⟩
    · have:=fixOf_mem (k+1) ts bs j b h
      exact ⟨by omega,by simp [this.2]⟩
theorem fixOf_inj:∀ (k:Nat) (ts:List PTy) (bs:List Nat) (i j b:Nat),bs.Nodup→fixOf k ts bs i=some b→fixOf k ts bs j=some b→i=j
  | _,[],_,_,_,_,_,h,_=>by simp [fixOf] at h
  | k,.val _::ts,bs,i,j,b,hn,h,g=>fixOf_inj (k+1) ts bs i j b hn h g
  | k,.ptr _::ts,[],i,j,b,_,h,_=>by simp [fixOf] at h
  | k,.ptr _::ts,b0::bs,i,j,b,hn,h,g=>by
    simp only [fixOf] at h g
    have hn':=List.nodup_cons.1 hn
    split at h <;> split at g
    · omega
    · cases h; exact absurd (fixOf_mem _ _ _ _ _ g).2 hn'.1
    · cases g; exact absurd (fixOf_mem _ _ _ _ _ h).2 hn'.1
    · exact fixOf_inj (k+1) ts bs i j b hn'.2 h g
def ParAt (S:Snap) (w:World) (k:Nat) (ts:List PTy) (vs:List Value) (xs:List AV) (bs:List Nat) (j:Nat):PTy→Prop
  | .val t=>∃ v x,vs[j]?=some v∧VRep S t v x∧(inT k ts xs)[j]?=some (.val t none x)∧(inO ts xs)[j]?=some ⟨0,none⟩
  | .ptr t=>∃ b x,vs[j]?=some (.pointer (some ⟨b,0,none⟩))∧Var S w t b x∧(inT k ts xs)[j]?=some (.ptr ⟨t,k+j,0,[]⟩)∧(inO ts xs)[j]?=some ⟨0,some ⟨t,x⟩⟩∧fixOf k ts bs (k+j)=some b
theorem par_at {S:Snap}:∀ (ts:List PTy) (vs:List Value) (xs:List AV) (bs:List Nat) (k:Nat),ArgsRel S w ts vs xs bs →
    vs.length=ts.length∧(inT k ts xs).length=ts.length∧(inO ts xs).length=ts.length∧∀ (j:Nat) T,ts[j]?=some T→ParAt S w k ts vs xs bs j T
  | [],vs,xs,bs,k,h=>by
    obtain ⟨rfl,rfl,rfl⟩:=h
    exact ⟨rfl,rfl,rfl,by simp⟩
  | .val t::ts,vs,xs,bs,k,h=>by
    obtain ⟨v,vs',x,xs',rfl,rfl,hv,h⟩:=h
    obtain ⟨h1,h2,h3,h4⟩:=par_at ts vs' xs' bs (k+1) h
    refine ⟨by simp [h1],by simp [inT,h2],by simp [inO,h3],fun j T hj=>?_⟩
    cases j with
    | zero =>
      simp at hj
      subst hj
      have hx:t.co x=x:=by obtain ⟨cs,_,r⟩:=hv; exact Rep.co_eq _ _ _ r
      exact ⟨v,x,rfl,hv,by simp [inT,hx],by simp [inO]⟩
    | succ j =>
      have:=h4 j T (by simpa using hj)
      cases T with
      | val t' =>
        obtain ⟨v',x',q1,q2,q3,q4⟩:=this
        exact ⟨v',x',by simpa using q1,q2,by simpa [inT] using q3,by simpa [inO] using q4⟩
      | ptr t' =>
        obtain ⟨b,x',q1,q2,q3,q4,q5⟩:=this
        rw [show k+1+j=k+(j+1) by omega] at q3 q5
        exact ⟨b,x',by simpa using q1,q2,by simpa [inT] using q3,by simpa [inO] using q4,by simpa [fixOf] using q5⟩
  | .ptr t::ts,vs,xs,bs,k,h=>by
    obtain ⟨v,vs',x,xs',b,bs',rfl,rfl,rfl,rfl,hv,h⟩:=h
    obtain ⟨h1,h2,h3,h4⟩:=par_at ts vs' xs' bs' (k+1) h
    refine ⟨by simp [h1],by simp [inT,h2],by simp [inO,h3],fun j T hj=>?_⟩
    cases j with
    | zero =>
      simp at hj
      subst hj
      have hx:t.co x=x:=by obtain ⟨cs,_,r,_⟩:=hv; exact Rep.co_eq _ _ _ r
      exact ⟨b,x,rfl,hv,by simp [inT],by simp [inO,hx],by simp [fixOf]⟩
    | succ j =>
      have:=h4 j T (by simpa using hj)
      cases T with
      | val t' =>
        obtain ⟨v',x',q1,q2,q3,q4⟩:=this
        exact ⟨v',x',by simpa using q1,q2,by simpa [inT] using q3,by simpa [inO] using q4⟩
      | ptr t' =>
        obtain ⟨b',x',q1,q2,q3,q4,q5⟩:=this
        rw [show k+1+j=k+(j+1) by omega] at q3 q5
        refine ⟨b',x',by simpa using q1,q2,by simpa [inT] using q3,by simpa [inO] using q4,?_⟩
        simp only [fixOf]
        rw [if_neg (by omega)]
        exact q5
theorem getD_append_any {l:List Ent} {n t:Nat} (h:l.length≤t):(l++List.replicate n Ent.any).getD t .any=.any:=by
  simp only [List.getD]
  rw [List.getElem?_append_right h]
  cases hh:(List.replicate n Ent.any)[t-l.length]? with
  | none=>rfl
  | some e=>exact (List.mem_replicate.1 (List.mem_of_getElem? hh)).2
theorem getD_append_slot {l:List OSlot} {n t:Nat} (h:l.length≤t):(l++List.replicate n (OSlot.mk 0 none)).getD t ⟨0,none⟩=⟨0,none⟩:=by
  simp only [List.getD]
  rw [List.getElem?_append_right h]
  cases hh:(List.replicate n (OSlot.mk 0 none))[t-l.length]? with
  | none=>rfl
  | some e=>exact (List.mem_replicate.1 (List.mem_of_getElem? hh)).2
theorem start_rel {i:FnInfo} {S0:Snap} {w0:World} {vs:List Value} {xs:List AV} {bs:List Nat} (ha:∀ p v,S0 p=some v→w0.cell? p=some v) (h:ArgsRel S0 w0 i.params vs xs bs) (hn:bs.Nodup) (hl:i.params.length≤i.ntmps) :
    ∃ gh,Rel ⟨w0.heap.size,bs,w0,S0,fixOf 0 i.params bs⟩ gh (i.start xs) { tmps:=vs.toArray++Array.replicate (i.ntmps-vs.toArray.size) undef,defers:=[] } w0:=by
  obtain ⟨h1,h2,h3,h4⟩:=par_at i.params vs xs bs 0 h
  have hT:∀ t,(i.start xs).look t=(inT 0 i.params xs++List.replicate (i.ntmps-i.params.length) Ent.any).getD t .any:=fun t=>rfl
  have hO:∀ t,(i.start xs).slot t=(inO i.params xs++List.replicate (i.ntmps-i.params.length) (OSlot.mk 0 none)).getD t ⟨0,none⟩:=fun t=>rfl
  have hob:∀ id ob,((i.start xs).slot id).ob=some ob→∃ t b,i.params[id]?=some (.ptr t)∧ob.t=t∧Var S0 w0 t b ob.x∧fixOf 0 i.params bs id=some b:=by
    intro id ob ho
    rw [hO] at ho
    rcases Nat.lt_or_ge id i.params.length with hlt | hge
    · have hg:=List.getElem?_eq_getElem hlt
      have:=h4 id _ hg
      rw [List.getD,List.getElem?_append_left (by rw [h3]; exact hlt)] at ho
      cases hp:i.params[id] with
      | val t =>
        rw [hp] at this
        obtain ⟨v,x,_,_,_,q4⟩:=this
        rw [q4] at ho
        cases ho
      | ptr t =>
        rw [hp] at this hg
        obtain ⟨b,x,q1,q2,q3,q4,q5⟩:=this
        rw [q4] at ho
        simp only [Option.getD_some,Option.some.injEq] at ho
        subst ho
        rw [Nat.zero_add] at q5
        exact ⟨t,b,hg,rfl,q2,q5⟩
    · rw [getD_append_slot (by rw [h3]; exact hge)] at ho
      cases ho
  refine ⟨⟨S0,fun k=>(fixOf 0 i.params bs k).getD 0,fun _=>.slice none 0 0,fun _=>0⟩,?_⟩
  exact {
    keep:=Keep.refl _ _ _
    size:=Nat.le_refl _
    le:=Snap.le_refl _
    new:=fun p v hp=>.inl hp
    agree:=ha
    ntm:=by simp [FnInfo.start,h1,h2]
    nob:=by simp [FnInfo.start,h2,h3]
    now:=by simp [FnInfo.start,h2]; omega
    defers:=rfl
    tmps:=fun t=>by
      rw [hT]
      rcases Nat.lt_or_ge t i.params.length with hlt | hge
      · have hg:=List.getElem?_eq_getElem hlt
        have:=h4 t _ hg
        rw [List.getD,List.getElem?_append_left (by rw [h2]; exact hlt)]
        have hv:∀ v,vs[t]?=some v→(vs.toArray++Array.replicate (i.ntmps-vs.toArray.size) undef).getD t undef=v:=by
          intro v hv
          rw [Array.getD_eq_getD_getElem?,Array.getElem?_append_left (by simp [h1,hlt])]
          simp [hv]
        cases hp:i.params[t] with
        | val T =>
          rw [hp] at this
          obtain ⟨v,x,q1,q2,q3,q4⟩:=this
          rw [q3,hv v q1]
          exact .plain q2
        | ptr T =>
          rw [hp] at this
          obtain ⟨b,x,q1,q2,q3,q4,q5⟩:=this
          rw [q3,hv _ q1]
          rw [Nat.zero_add] at q5 ⊢
          refine ⟨Nat.zero_le _,fun _ ob ho=>?_⟩
          obtain ⟨T',b',e1,e2,e3,e4⟩:=hob t ob ho
          rw [hg,hp] at e1
          cases e1
          refine ⟨0,⟨e2,rfl⟩,?_⟩
          show _=Value.pointer (some ⟨(fixOf 0 i.params bs t).getD 0,0,none⟩)
          rw [q5]
          rfl
      · rw [getD_append_any (by rw [h2]; exact hge)]
        trivial
    objs:=fun id ob ho=>by
      obtain ⟨t,b,e1,e2,⟨cs,k1,k2,k3⟩,e4⟩:=hob id ob ho
      have hm:(fixOf 0 i.params bs id).getD 0=b:=by rw [e4]; rfl
      show ObRel _ _ _ _ ((fixOf 0 i.params bs id).getD 0) ob
      rw [hm]
      exact ⟨cs,k1,.inr (fixOf_mem _ _ _ _ _ e4).2,by rw [e2]; exact k2,k3⟩
    minj:=fun x y ox oy hx hy e=>by
      obtain ⟨_,b1,_,_,_,e1⟩:=hob x ox hx
      obtain ⟨_,b2,_,_,_,e2⟩:=hob y oy hy
      simp only [e1,e2,Option.getD_some] at e
      subst e
      exact fixOf_inj _ _ _ _ _ _ hn e1 e2
    owns:=fun g=>.inl rfl
    odist:=fun g g' b e _=>by cases e
    mo:=fun id ob g b _ e=>by cases e
    fix:=fun k b e _ ob _=>by
      show (fixOf 0 i.params bs k).getD 0=b
      rw [show fixOf 0 i.params bs k=some b from e]
      rfl }
open Classical in
noncomputable def Snap.freeze (S:Snap) (w:World) (F:Nat→Prop):Snap:=fun p=>match S p with
  | some v=>some v
  | none=>if F p.block then w.cell? p else none
theorem freeze_le (S:Snap) (w:World) (F:Nat→Prop):S.le (S.freeze w F):=fun p v h=>by simp [Snap.freeze,h]
theorem freeze_new {S:Snap} {w:World} {F:Nat→Prop} {p:Addr} {v:Value} (h:S.freeze w F p=some v):S p=some v∨(F p.block∧w.cell? p=some v):=by
  unfold Snap.freeze at h
  split at h
  · rename_i hs; rw [hs]; exact .inl h
  · split at h
    · rename_i hf; exact .inr ⟨hf,h⟩
    · cases h
theorem freeze_off {S:Snap} {w:World} {F:Nat→Prop} {b k:Nat} (h:S.off b k) (hb:¬ F b):(S.freeze w F).off b k:=fun p hp hk=>by
  cases hs:S.freeze w F p with
  | none=>rfl
  | some v =>
    rcases freeze_new hs with h1 | ⟨h1,_⟩
    · rw [h p hp hk] at h1; cases h1
    · rw [hp] at h1; exact absurd h1 hb
theorem freeze_at {S:Snap} {w:World} {F:Nat→Prop} {p:Addr} {v:Value} (ha:∀ p v,S p=some v→w.cell? p=some v) (hf:F p.block) (hc:w.cell? p=some v):S.freeze w F p=some v:=by
  unfold Snap.freeze
  split
  · rename_i u hu
    rw [ha p u hu] at hc
    exact hc
  · rw [if_pos hf]; exact hc
theorem add_block (p:Addr) (j:Nat):(p.add j).block=p.block:=by
  unfold Addr.add
  split
  · rfl
  · cases p.spot <;> rfl
def Named (gh:Ghost) (s:St) (ids:List Nat) (b:Nat):Prop:=∃ id∈ids,∃ ob,(s.slot id).ob=some ob∧gh.m id=b
theorem valE_rel (h:Rel c gh s a w) {np:Nat} {t:Ty} {i:Nat} {x:AV} {ids F:List Nat} (e:valE s np t i=some (x,ids)) (hF:∀ id∈ids,id∈F) :
    VRep (gh.S.freeze w (Named gh s F)) t (a.tmps.getD i undef) x∧∀ id∈ids,np≤id:=by
  unfold valE at e
  split at e
  · rename_i p lo hi hr
    have hr:=refOf_some hr
    have hv:=h.tmps i
    rw [hr] at hv
    split at e
    · rename_i e0 e' hel
      obtain ⟨hb,e⟩:=cond_some e
      simp only [Bool.and_eq_true] at hb
      obtain ⟨l,hl,e⟩:=Option.map_eq_some_iff.1 e
      simp only [Prod.mk.injEq] at e
      obtain ⟨rfl,rfl⟩:=e
      refine ⟨?_,fun id hid=>by simp at hid; subst hid; exact Nat.le_of_ble_eq_true hb.2⟩
      obtain ⟨ad,cap,e1,cs,k1,k2,k3,k4,k5,k6,k7,ob,k8,k9⟩:=h.refCells hv hl
      have he':=Ty.beq_eq _ _ hb.1
      rw [hel] at k2
      cases k2
      rw [he'] at k6
      rw [k1]
      refine VRep.slice_mk (Rep.mono (freeze_le _ _ _) _ _ _ k6) (fun j u hj=>?_) k3 k4
      refine freeze_at h.agree ?_ (k7 j u hj)
      rw [add_block]
      obtain ⟨off,e2,a2,cap2,m1,m2,m3,m4,m5,m6,m7,m8⟩:=hv.2 k9 ob k8
      have hlt:lo < hi:=by
        rcases Nat.lt_or_ge lo hi with hh | hh
        · exact hh
        · have hz:l.length=0:=by omega
          have:=(arr_len k6).2
          rw [hz] at this
          have:=(List.getElem?_eq_some_iff.1 hj).1
          omega
      rw [k1] at m5
      simp only [Value.slice.injEq,Option.some.injEq] at m5
      rw [m5.1,m8 hlt]
      exact ⟨p.id,hF _ (by simp),ob,k8,rfl⟩
    · cases e
  · obtain ⟨y,hy,e⟩:=Option.map_eq_some_iff.1 e
    simp only [Prod.mk.injEq] at e
    obtain ⟨rfl,rfl⟩:=e
    exact ⟨VRep.mono (freeze_le _ _ _) (h.opv hy),by simp⟩
theorem cellE_rel (hP:EnvOk P G) (h:Rel c gh s a w) {t:Ty} {i:Nat} {u:TypeId} {x:AV} (e:cellE G s t i u=some x) :
    ∃ v,(do loadVar u (← asAddr (a.tmps.getD i undef)):Sem Value).run P w=.ok v w∧VRep gh.S t v x:=by
  unfold cellE at e
  have hv:=h.tmps i
  cases hl:s.look i <;> rw [hl] at e hv <;> simp only at e <;> (try (cases e; done))
  rename_i p
  obtain ⟨hb,e⟩:=cond_some e
  simp only [Bool.and_eq_true] at hb
  obtain ⟨y,hy,rfl⟩:=Option.map_eq_some_iff.1 e
  have ht:=Ty.beq_eq _ _ hb.1
  obtain ⟨ob,off,cs,k1,k2,k3,k4,k5,k6,_⟩:=h.getPt hv hy
  cases hu:G.tyOf u with
  | none=>rw [hu] at hb; cases hb.2
  | some U =>
    rw [hu] at hb
    have hU:U=t:=Ty.beq_eq _ _ hb.2
    subst hU
    rw [ht] at k5
    refine ⟨U.val cs,?_,cs,rfl,by rw [Rep.co_eq _ _ _ k5]; exact k5⟩
    rw [k4]
    simp only [asAddr,Sem.run_bind,Sem.run_pure,Result.andThen_ok]
    exact run_loadVar (hP.ty _ _ hu) _ cs (Rep.len _ _ _ k5) k6
def oneRes (tmps:Array Value):ResultVar→Sem Value
  | .tmp t=>pure (tmps.getD t undef)
  | .cell a t=>do loadVar t (← asAddr (tmps.getD a undef))
theorem results_eq (fn:Func) (tmps:Array Value):results fn tmps=(do
    let vs ← fn.results.mapM (oneRes tmps)
    pure (if h:vs.size=1 then vs[0] else .tuple vs)):=by
  unfold results
  congr 2
theorem varsE_rel (hP:EnvOk P G) (h:Rel c gh s a w) {np:Nat} {F:List Nat}:∀ (ts:List PTy) (rs:List ResultVar) (l:List AV) (ids:List Nat),varsE G s np ts rs=some (l,ids)→(∀ id∈ids,id∈F) →
    (∃ vs:List Value,(rs.mapM (oneRes a.tmps)).run P w=.ok vs w∧TupRel (gh.S.freeze w (Named gh s F)) ts vs l∧vs.length=ts.length∧rs.length=ts.length∧∀ i t,rs=[.tmp i]→ts=[.val t]→vs=[a.tmps.getD i undef])∧∀ id∈ids,np≤id
  | [],[],l,ids,e,_=>by
    cases e
    exact ⟨⟨[],rfl,⟨rfl,rfl⟩,rfl,rfl,fun i t e=>by cases e⟩,by simp⟩
  | [],_::_,_,_,e,_=>by cases e
  | .ptr _::_,_,_,_,e,_=>by cases e
  | .val t::ts,[],_,_,e,_=>by cases e
  | .val t::ts,r::rs,l,ids,e,hF=>by
    simp only [varsE] at e
    obtain ⟨⟨x,ix⟩,hx,e⟩:=bind_some e
    obtain ⟨⟨l',ids'⟩,hr,e⟩:=Option.map_eq_some_iff.1 e
    simp only [Prod.mk.injEq] at e
    obtain ⟨rfl,rfl⟩:=e
    obtain ⟨⟨vs,k1,k2,k3,k4,_⟩,k5⟩:=varsE_rel hP h ts rs l' ids' hr fun id hid=>hF id (by simp [hid])
    cases r with
    | tmp i =>
      simp only [varE] at hx
      obtain ⟨q1,q2⟩:=valE_rel h hx fun id hid=>hF id (by simp [hid])
      refine ⟨⟨a.tmps.getD i undef::vs,?_,⟨_,_,_,_,rfl,rfl,q1,k2⟩,by simp [k3],by simp [k4],fun i' t' e1 e2=>?_⟩,fun id hid=>?_⟩
      · simp only [List.mapM_cons,oneRes,Sem.run_bind,Sem.run_pure,Result.andThen_ok,k1]
      · simp only [List.cons.injEq,ResultVar.tmp.injEq] at e1 e2
        obtain ⟨rfl,rfl⟩:=e1
        have:vs=[]:=List.eq_nil_of_length_eq_zero (by rw [k3,e2.2]; rfl)
        rw [this]
      · rcases List.mem_append.1 hid with hid | hid
        · exact q2 id hid
        · exact k5 id hid
    | cell i u =>
      simp only [varE] at hx
      obtain ⟨y,hy,e⟩:=Option.map_eq_some_iff.1 hx
      simp only [Prod.mk.injEq] at e
      obtain ⟨rfl,rfl⟩:=e
      obtain ⟨v,q1,q2⟩:=cellE_rel hP h hy
      refine ⟨⟨v::vs,?_,⟨_,_,_,_,rfl,rfl,VRep.mono (freeze_le _ _ _) q2,k2⟩,by simp [k3],by simp [k4],fun i' t' e1 _=>by cases e1⟩,fun id hid=>k5 id (by simpa using hid)⟩
      rw [List.mapM_cons,Sem.run_bind]
      have:(oneRes a.tmps (.cell i u)).run P w=.ok v w:=q1
      rw [this]
      simp only [Result.andThen_ok,Sem.run_bind,Sem.run_pure,k1]
theorem tup_one {S:Snap} {t:Ty} {vs:List Value} {l:List AV} (h:TupRel S [.val t] vs l):∃ v x,vs=[v]∧l=[x]∧VRep S t v x:=by
  obtain ⟨v,vs',x,xs',rfl,rfl,hv,rfl,rfl⟩:=h
  exact ⟨v,x,rfl,rfl,hv⟩
theorem resE_or {np:Nat} {ts:List PTy} {rs:List ResultVar} {l:List AV × List Nat} (e:resE G s np ts rs=some l) :
    (∃ t i p x,ts=[.ptr t]∧rs=[.tmp i]∧s.look i=.ptr p∧(p.t.beq t&&p.path.isEmpty&&Nat.ble np p.id)=true∧s.getPt p=some x∧l=([t.co x],[]))∨varsE G s np ts rs=some l:=by
  unfold resE at e
  split at e
  · rename_i t i
    refine .inl ?_
    cases hl:s.look i <;> rw [hl] at e <;> simp only at e <;> (try (cases e; done))
    rename_i p
    obtain ⟨hb,e⟩:=cond_some e
    obtain ⟨x,hx,e⟩:=Option.map_eq_some_iff.1 e
    exact ⟨t,i,p,x,rfl,rfl,hl,hb,hx,e.symm⟩
  · exact .inr e
theorem res_rel (hP:EnvOk P G) (h:Rel c gh s a w) {fn:Func} {np:Nat} {ts:List PTy} {l:List AV} {ids:List Nat} (e:resE G s np ts fn.results.toList=some (l,ids)) (os:List AV) (fr:Bool) (hfr:(!fr || freshE s fn.results.toList)=true) (hnb:∀ id ob,np≤id→(s.slot id).ob=some ob→c.B≤gh.m id) :
    (∃ v,(results fn a.tmps).run P w=.ok v w∧ResRel (gh.S.freeze w (Named gh s ids)) w c.B ts ⟨l,os,fr⟩ v)∧∀ id∈ids,np≤id:=by
  have hres:∀ (vs:List Value),(fn.results.toList.mapM (oneRes a.tmps)).run P w=.ok vs w→(results fn a.tmps).run P w=.ok (if h:vs.length=1 then vs[0] else .tuple vs.toArray) w:=by
    intro vs hvs
    rw [results_eq,Array.mapM_eq_mapM_toList]
    simp only [map_eq_pure_bind,Sem.run_bind,hvs,Result.andThen_ok,Sem.run_pure,bind_assoc,pure_bind]
    congr 1
  rcases resE_or e with ⟨t,i,p,x,rfl,hrs,hl,hb,hx,hle⟩ | e
  · have hv:=h.tmps i
    rw [hl] at hv
    simp only [Bool.and_eq_true] at hb
    simp only [Prod.mk.injEq] at hle
    obtain ⟨rfl,rfl⟩:=hle
    have hso:s.soleAt p=true:=by
      unfold St.getPt at hx
      obtain ⟨ob,ho,_⟩:=Option.map_eq_some_iff.1 hx
      have hp:=isEmpty_nil hb.1.2
      simp [St.soleAt,ho,hp,sole]
    obtain ⟨q1,q2,q3,ob,q5,q6,q7⟩:=h.handed hv (t:=t) (by simp [hb.1.1,hso]) hx
    refine ⟨⟨a.tmps.getD i undef,?_,t.co x,gh.m p.id,rfl,q1,hnb _ ob (Nat.le_of_ble_eq_true hb.2) q5,?_⟩,by simp⟩
    · rw [hres [a.tmps.getD i undef] (by rw [hrs]; simp [oneRes])]
      rfl
    · obtain ⟨cs,g1,g2,g3⟩:=q2
      exact ⟨cs,g1,Rep.mono (freeze_le _ _ _) _ _ _ g2,freeze_off g3 (by rintro ⟨id,hid,_⟩; simp at hid)⟩
  · clear hnb
    obtain ⟨⟨vs,k1,k2,k3,k4,k6⟩,k5⟩:=varsE_rel hP h (F:=ids) _ _ l ids e fun _ h=>h
    refine ⟨⟨_,hres vs k1,?_⟩,k5⟩
    have tup:ts.length≠1→∃ vs',(if h:vs.length=1 then vs[0] else .tuple vs.toArray)=.tuple vs'.toArray∧TupRel (gh.S.freeze w (Named gh s ids)) ts vs' l:=fun hne=>⟨vs,by rw [dif_neg (by omega)],k2⟩
    match ts,k2,k3,k4,k6,tup,e with
    | [],_,_,_,_,tup,_=>exact tup (by simp)
    | [.val t],k2,k3,k4,k6,_,e =>
      obtain ⟨v,x,rfl,rfl,hv⟩:=tup_one k2
      refine ⟨x,rfl,by simpa using hv,fun hf=>?_⟩
      simp only at hf
      rw [hf] at hfr
      have hf:freshE s fn.results.toList=true:=by simpa using hfr
      unfold freshE at hf
      split at hf
      · rename_i i heq
        split at hf
        · rename_i T g n y hl
          simp only [Bool.and_eq_true] at hf
          have hi:=h.tmps i
          rw [hl] at hi
          obtain ⟨q1,E,rfl,q3⟩:=(hi.2 g n rfl).2 (Nat.eq_of_beq_eq_true hf.1).symm
          have hvi:v=a.tmps.getD i undef:=by simpa using k6 i t heq rfl
          rw [heq] at e
          simp only [varsE,varE,valE,hl,Ent.refOf] at e
          obtain ⟨z,hz,e⟩:=bind_some e
          obtain ⟨z',hz',_⟩:=Option.map_eq_some_iff.1 hz
          simp only [St.opv,hl,Ent.atTy] at hz'
          obtain ⟨hb,_⟩:=cond_some hz'
          have:=Ty.beq_eq _ _ hb
          subst this
          refine ⟨E,rfl,?_⟩
          have ho:=h.owns g
          rw [q3,← q1,← hvi] at ho
          rcases ho with h0 | ⟨g',n',cap,cs,e',m1,m2,m3,m4,m5,m6⟩
          · exact .inl (by simpa using h0)
          · refine .inr ⟨g',n',cap,cs,by simpa using e',m1,m2,m3,m4,m5,freeze_off m6 ?_⟩
            rintro ⟨id,_,ob,hob,hm⟩
            refine h.mo id ob g g' hob ?_ hm
            rw [← q1,← hvi,e']
            rfl
        · cases hf
      · cases hf
    | [.ptr t],k2,_,_,_,_,_=>exact k2.elim
    | x::y::ts,k2,_,_,_,tup,_ =>
      obtain ⟨vs',h1,h2⟩:=tup (by simp)
      cases x with
      | ptr t=>exact h2.elim
      | val t=>exact ⟨vs',h1,h2⟩
end Go.Proofs.YtlkkebfjmbfgpaaGreatDoor.Ev
namespace Go.Proofs.YtlkkebfjmbfgpaaGreatDoor.Ev
open Go Go.RowKit
variable {c:Ctx} {gh:Ghost} {s:St} {a:Act} {w:World} {P:Program} {G:Env} {run:Run}
theorem argsRel_len {S:Snap}:∀ (ts:List PTy) (vs:List Value) (xs:List AV) (bs:List Nat),ArgsRel S w ts vs xs bs→bs.length=(ptrTys ts).length
  | [],_,_,_,h=>by rw [h.2.2]; rfl
  | .val t::ts,vs,xs,bs,h=>by
    obtain ⟨v,vs',x,xs',rfl,rfl,_,h⟩:=h
    exact argsRel_len ts vs' xs' bs h
  | .ptr t::ts,vs,xs,bs,h=>by
    obtain ⟨v,vs',x,xs',b,bs',rfl,rfl,rfl,_,_,h⟩:=h
    simp [ptrTys,argsRel_len ts vs' xs' bs' h]
theorem outs_rel (h:Rel c gh s a w):∀ (ts:List PTy) (k:Nat) (bs:List Nat) (os:List AV),outsOf s k ts=some os→bs.length=(ptrTys ts).length→(∀ j b,fixOf k ts bs j=some b→c.fx j=some b) →
    OutsRel gh.S w (ptrTys ts) os bs∧∀ b∈bs,∃ j,j < k+ts.length∧∃ ob,(s.slot j).ob=some ob∧gh.m j=b
  | [],k,bs,os,e,hl,_=>by
    cases e
    have:bs=[]:=List.eq_nil_of_length_eq_zero hl
    subst this
    exact ⟨⟨rfl,rfl⟩,by simp⟩
  | .val t::ts,k,bs,os,e,hl,hf=>by
    obtain ⟨h1,h2⟩:=outs_rel h ts (k+1) bs os e hl fun j b hj=>hf j b hj
    refine ⟨h1,fun b hb=>?_⟩
    obtain ⟨j,hj,r⟩:=h2 b hb
    exact ⟨j,by simp only [List.length_cons]; omega,r⟩
  | .ptr t::ts,k,bs,os,e,hl,hf=>by
    cases bs with
    | nil=>simp [ptrTys] at hl
    | cons b bs =>
      simp only [outsOf] at e
      obtain ⟨ob,hob,e⟩:=bind_some e
      obtain ⟨hb,e⟩:=cond_some e
      obtain ⟨os',hos,rfl⟩:=Option.map_eq_some_iff.1 e
      obtain ⟨hgen,hob⟩:=obAt_some hob
      simp only at hgen hob
      have hm:gh.m k=b:=h.fix k b (hf k b (by simp [fixOf])) hgen.symm ob hob
      obtain ⟨h1,h2⟩:=outs_rel h ts (k+1) bs os' hos (by simpa [ptrTys] using hl) fun j b' hj=>hf j b' (by
        have:=(fixOf_mem _ _ _ _ _ hj).1
        simp only [fixOf]
        rw [if_neg (by omega)]
        exact hj)
      have ht:=Ty.beq_eq _ _ hb
      obtain ⟨cs,q1,q2,q3,q4⟩:=h.objs k ob hob
      refine ⟨⟨_,_,_,_,rfl,rfl,⟨cs,by rw [← hm]; exact q1,?_,by rw [← hm]; exact q4⟩,h1⟩,fun b' hb'=>?_⟩
      · rw [ht] at q3
        rw [Rep.co_eq _ _ _ q3]
        exact q3
      · rcases List.mem_cons.1 hb' with rfl | hb'
        · exact ⟨k,by simp only [List.length_cons]; omega,ob,hob,hm⟩
        · obtain ⟨j,hj,r⟩:=h2 b' hb'
          exact ⟨j,by simp only [List.length_cons]; omega,r⟩
theorem outs_freeze {S:Snap} {F:Nat→Prop}:∀ (ts:List Ty) (os:List AV) (bs:List Nat),OutsRel S w ts os bs→(∀ b∈bs,¬ F b)→OutsRel (S.freeze w F) w ts os bs
  | [],_,_,h,_=>h
  | t::ts,os,bs,h,hb=>by
    obtain ⟨y,ys,b,bs',rfl,rfl,⟨cs,q1,q2,q3⟩,h⟩:=h
    exact ⟨y,ys,b,bs',rfl,rfl,⟨cs,q1,Rep.mono (freeze_le _ _ _) _ _ _ q2,freeze_off q3 (hb b (by simp))⟩,outs_freeze ts ys bs' h fun b' hb'=>hb b' (by simp [hb'])⟩
structure FnOk (P:Program) (f:FuncId) (i:FnInfo) (fn:Func):Prop where
  at_:P.funcs[f]?=some fn
  body:fn.body=some i.body
  results:fn.results.toList=i.rvars
  ntmps:fn.ntmps=i.ntmps
  params:i.params.length≤i.ntmps
  name:(fn.name == "runtime.NumGoroutine")=false
theorem fn_sat {f:FuncId} {i:FnInfo} {fn:Func} {xs:List AV} {r:Res} {n:Nat} (hT:TyAll P G) (hF:FnsOk P G run) (hi:FnOk P f i fn) (hk:evalK G run n i.keep 0 i.body (retE G i) (i.start xs)=some r):Sat P i f xs r:=by
  intro S0 w0 vs bs ha hargs hnd
  refine calls_of_wp hi.at_ hi.body ?_
  obtain ⟨gh,hrel⟩:=start_rel ha hargs hnd hi.params
  rw [hi.ntmps]
  refine evalK_sound hT hF n i.keep i.body 0 (retE G i) _ gh _ _ w0 hrel hk fun ex s' gh' a' w' h hk'=>?_
  have main:((resE G s' i.params.length i.results i.rvars).bind fun l=>(outsOf s' 0 i.params).bind fun os=>bif !i.fresh || freshE s' i.rvars then some (⟨l.1,os,i.fresh⟩:Res) else none)=some r →
      a'.defers=[]∧∃ v,(results fn a'.tmps).run P w'=.ok v w'∧∃ S v',Ending.returned v=.returned v'∧S0.le S∧(∀ p u,S p=some u→S0 p=some u∨w0.heap.size≤p.block)∧(∀ p u,S p=some u→w'.cell? p=some u) ∧
      Keep w0.heap.size bs w0 w'∧ResRel S w' w0.heap.size i.results r v'∧OutsRel S w' (ptrTys i.params) r.outs bs:=by
    intro e
    refine ⟨h.defers,?_⟩
    obtain ⟨⟨l,ids⟩,hres,e⟩:=bind_some e
    obtain ⟨os,hos,e⟩:=bind_some e
    obtain ⟨hfr,e⟩:=cond_some e
    cases e
    obtain ⟨h1,h2⟩:=outs_rel h i.params 0 bs os hos (argsRel_len _ _ _ _ hargs) fun j b hj=>hj
    have hnb:∀ id ob,i.params.length≤id→(s'.slot id).ob=some ob→w0.heap.size≤gh'.m id:=fun id ob hid hob=>by
      obtain ⟨cs,q1,q2,q3,q4⟩:=h.objs id ob hob
      rcases q2 with q2 | q2
      · exact q2
      · obtain ⟨j,hj,ob',hob',hm⟩:=h2 _ q2
        have:=h.minj j id ob' ob hob' hob hm
        omega
    rw [← hi.results] at hres hfr
    obtain ⟨⟨v,k1,k2⟩,k3⟩:=res_rel hT.toEnvOk h hres os i.fresh hfr hnb
    refine ⟨v,k1,gh'.S.freeze w' (Named gh' s' ids),v,rfl,Snap.le_trans h.le (freeze_le _ _ _),fun p u hp=>?_,fun p u hp=>?_,h.keep,k2,outs_freeze _ _ _ h1 ?_⟩
    · rcases freeze_new hp with hp | ⟨⟨id,hid,ob,hob,hm⟩,_⟩
      · exact h.new p u hp
      · rw [← hm]; exact .inr (hnb id ob (k3 id hid) hob)
    · rcases freeze_new hp with hp | ⟨_,hp⟩
      · exact h.agree p u hp
      · exact hp
    · rintro b hb ⟨id,hid,ob,hob,hm⟩
      obtain ⟨j,hj,ob',hob',hm'⟩:=h2 b hb
      have:=h.minj j id ob' ob hob' hob (by rw [hm',hm])
      have:=k3 id hid
      omega
  cases ex with
  | normal=>exact main hk'
  | ret=>exact main hk'
  | exit id=>cases hk'
  | goto l=>cases hk'
def FnsAll (P:Program):List (FuncId × FnInfo)→Prop
  | []=>True
  | (f,i)::r=>(∃ fn,FnOk P f i fn)∧FnsAll P r
theorem FnsAll.get:∀ {l:List (FuncId × FnInfo)} {f:FuncId} {i:FnInfo},FnsAll P l→assoc l f=some i→∃ fn,FnOk P f i fn
  | [],_,_,_,e=>by cases e
  | (g,j)::r,f,i,h,e=>by
    simp only [assoc] at e
    cases hb:Nat.beq g f with
    | true =>
      rw [hb,cond_true] at e
      cases e
      rw [← Nat.eq_of_beq_eq_true hb]
      exact h.1
    | false =>
      rw [hb,cond_false] at e
      exact FnsAll.get h.2 e
theorem runE_sound {ext:Run} (hT:TyAll P G) (hA:FnsAll P G.fns) (hext:∀ f i xs r,assoc G.fns f=some i→ext f xs=some r→Sat P i f xs r):∀ n,FnsOk P G (runE G ext n)
  | 0=>by
    refine ⟨fun f i e=>?_,hext⟩
    obtain ⟨fn,h⟩:=hA.get e
    exact ⟨fn,h.at_,h.name,by rw [h.body]; rfl⟩
  | n+1=>by
    have ih:=runE_sound hT hA hext n
    refine ⟨ih.fn,fun f i xs r e hk=>?_⟩
    obtain ⟨fn,h⟩:=hA.get e
    simp only [runE,e] at hk
    cases hx:i.ext with
    | true =>
      rw [hx,cond_true] at hk
      exact hext f i xs r e hk
    | false =>
      rw [hx,cond_false] at hk
      exact fn_sat hT ih h hk
def eqCell:Value→Value→Bool
  | .bool a,.bool b=>cond a b (!b)
  | .int j m,.int k n=>Nat.beq (kindNo j) (kindNo k)&&decide (m=n)
  | .string a,.string b=>decide (a.data.toList=b.data.toList)
  | .slice none 0 0,.slice none 0 0=>true
  | .nilFunc,.nilFunc=>true
  | _,_=>false
theorem eqCell_eq {u v:Value} (h:eqCell u v=true):u=v:=by
  unfold eqCell at h
  split at h
  · rename_i a b
    cases a <;> cases b <;> first | rfl | cases h
  · rename_i j m k n
    simp only [Bool.and_eq_true,decide_eq_true_eq] at h
    rw [kindNo_inj (Nat.eq_of_beq_eq_true h.1),h.2]
  · rename_i a b
    have:=of_decide_eq_true h
    obtain ⟨⟨a⟩⟩:=a
    obtain ⟨⟨b⟩⟩:=b
    simp only at this
    rw [this]
  · rfl
  · rfl
  · cases h
def eqCells:List Value→List Value→Bool
  | [],l=>l.isEmpty
  | u::us,l=>match l with
    | []=>false
    | v::vs=>eqCell u v&&eqCells us vs
theorem eqCells_eq:∀ {us vs:List Value},eqCells us vs=true→us=vs
  | [],vs,h=>by
    cases vs with
    | nil=>rfl
    | cons v vs=>cases h
  | u::us,[],h=>by cases h
  | u::us,v::vs,h=>by
    simp only [eqCells,Bool.and_eq_true] at h
    rw [eqCell_eq h.1,eqCells_eq h.2]
def eqZero (T:Ty) (v:Value):Bool:=bif T.isAgg then (match v with | .agg cs=>eqCells cs.toList T.zeroCells | _=>false) else eqCell v (T.zeroCells.headD (.tuple #[]))
theorem eqZero_eq {T:Ty} {v:Value} (h:eqZero T v=true):v=T.val T.zeroCells:=by
  unfold eqZero at h
  unfold Ty.val
  cases ha:T.isAgg with
  | true =>
    rw [ha,cond_true] at h
    cases v <;> simp only at h <;> (try (cases h; done))
    rw [← eqCells_eq h]
    simp
  | false =>
    rw [ha,cond_false] at h
    simpa using eqCell_eq h
def chkBase (P:Program) (T:Ty) (t:TypeId):Bool:=match P.info? t with
  | none=>false
  | some i=>Nat.beq i.size T.size&&(match i.zero with | some v=>eqZero T v | none=>false)
theorem chkBase_ok {T:Ty} {t:TypeId} (h:chkBase P T t=true):TBase P T t:=by
  unfold chkBase at h
  split at h
  · cases h
  · rename_i i hi
    simp only [Bool.and_eq_true] at h
    refine ⟨i,hi,Nat.eq_of_beq_eq_true h.1,?_⟩
    cases hz:i.zero with
    | none=>rw [hz] at h; cases h.2
    | some v =>
      rw [hz] at h
      rw [eqZero_eq h.2]
mutual
def chkTy (P:Program):Ty→TypeId→Bool
  | .bool,t=>chkBase P .bool t&&(match P.underlying t with | some .bool=>true | _=>false)
  | .int k,t=>chkBase P (.int k) t&&(match P.underlying t with | some (.int k')=>Nat.beq (kindNo k') (kindNo k) | _=>false)
  | .str,t=>chkBase P .str t&&(match P.underlying t with | some .string=>true | _=>false)
  | .blob n,t=>chkBase P (.blob n) t&&(match P.underlying t with | some (.array m e)=>Nat.beq m n&&(match P.underlying e with | some (.int .u8)=>chkBase P (.int .u8) e | _=>false) | _=>false)
  | .arr n E,t=>chkBase P (.arr n E) t&&(match P.underlying t with | some (.array m e)=>Nat.beq m n&&chkTy P E e | _=>false)
  | .struct Fs,t=>chkBase P (.struct Fs) t&&(!P.stoodInHeld t&&(match P.underlying t with | some (.struct fs)=>chkTyL P Fs fs.toList 0 | _=>false))
  | .slice E,t=>chkBase P (.slice E) t&&(Nat.blt 0 E.size&&(match P.underlying t with | some (.slice e)=>chkTy P E e | _=>false))
  | .fn,t=>chkBase P .fn t&&(match P.underlying t with | some (.func _ _ _)=>true | _=>false)
  | .pat _,_=>false
  | .clos alts ts,t=>chkBase P (.clos alts ts) t&&(match P.underlying t with | some (.func _ _ _)=>true | _=>false)
def chkTyL (P:Program):List Ty→List Field→Nat→Bool
  | [],fs,_=>fs.isEmpty
  | T::Ts,fs,off=>match fs with
    | []=>false
    | f::r=>Nat.beq f.offset off&&(!(f.name == "_")&&(Nat.blt 0 T.size&&(chkTy P T f.type&&chkTyL P Ts r (off+T.size))))
end
mutual
theorem chkTy_ok:∀ (T:Ty) (t:TypeId),chkTy P T t=true→TyOk P T t
  | .bool,t,h=>by
    simp only [chkTy,Bool.and_eq_true] at h
    refine ⟨chkBase_ok h.1,?_⟩
    have h2:=h.2
    split at h2
    · assumption
    · cases h2
  | .int k,t,h=>by
    simp only [chkTy,Bool.and_eq_true] at h
    refine ⟨chkBase_ok h.1,?_⟩
    have h2:=h.2
    split at h2
    · rename_i k' e
      rw [e,kindNo_inj (Nat.eq_of_beq_eq_true h2)]
    · cases h2
  | .str,t,h=>by
    simp only [chkTy,Bool.and_eq_true] at h
    refine ⟨chkBase_ok h.1,?_⟩
    have h2:=h.2
    split at h2
    · assumption
    · cases h2
  | .blob n,t,h=>by
    simp only [chkTy,Bool.and_eq_true] at h
    refine ⟨chkBase_ok h.1,?_⟩
    have h2:=h.2
    split at h2
    · rename_i m e he
      simp only [Bool.and_eq_true] at h2
      have hm:=Nat.eq_of_beq_eq_true h2.1
      subst hm
      have h3:=h2.2
      split at h3
      · rename_i hu
        exact ⟨e,he,hu,chkBase_ok h3⟩
      · cases h3
    · cases h2
  | .arr n E,t,h=>by
    simp only [chkTy,Bool.and_eq_true] at h
    refine ⟨chkBase_ok h.1,?_⟩
    have h2:=h.2
    split at h2
    · rename_i m e he
      simp only [Bool.and_eq_true] at h2
      have hm:=Nat.eq_of_beq_eq_true h2.1
      subst hm
      exact ⟨e,he,chkTy_ok E e h2.2⟩
    · cases h2
  | .struct Fs,t,h=>by
    simp only [chkTy,Bool.and_eq_true,Bool.not_eq_true'] at h
    refine ⟨chkBase_ok h.1,h.2.1,?_⟩
    have h2:=h.2.2
    split at h2
    · rename_i fs he
      exact ⟨fs,he,chkTyL_ok Fs fs.toList 0 h2⟩
    · cases h2
  | .slice E,t,h=>by
    simp only [chkTy,Bool.and_eq_true] at h
    refine ⟨chkBase_ok h.1,Nat.le_of_ble_eq_true h.2.1,?_⟩
    have h2:=h.2.2
    split at h2
    · rename_i e he
      exact ⟨e,he,chkTy_ok E e h2⟩
    · cases h2
  | .fn,t,h=>by
    simp only [chkTy,Bool.and_eq_true] at h
    refine ⟨chkBase_ok h.1,?_⟩
    have h2:=h.2
    split at h2
    · rename_i ps rs v he
      exact ⟨ps,rs,v,he⟩
    · cases h2
  | .pat _,t,h=>by cases h
  | .clos alts ts,t,h=>by
    simp only [chkTy,Bool.and_eq_true] at h
    refine ⟨chkBase_ok h.1,?_⟩
    have h2:=h.2
    split at h2
    · rename_i ps rs v he
      exact ⟨ps,rs,v,he⟩
    · cases h2
theorem chkTyL_ok:∀ (Ts:List Ty) (fs:List Field) (off:Nat),chkTyL P Ts fs off=true→TyOkL P Ts fs off
  | [],fs,off,h=>by
    cases fs with
    | nil=>rfl
    | cons f fs=>cases h
  | T::Ts,fs,off,h=>by
    cases fs with
    | nil=>cases h
    | cons f r =>
      simp only [chkTyL,Bool.and_eq_true,Bool.not_eq_true'] at h
      exact ⟨f,r,rfl,Nat.eq_of_beq_eq_true h.1,h.2.1,Nat.le_of_ble_eq_true h.2.2.1,chkTy_ok T f.type h.2.2.2.1,chkTyL_ok Ts r _ h.2.2.2.2⟩
end
def chkTys (P:Program):List (TypeId × Ty)→Bool
  | []=>true
  | (t,T)::r=>chkTy P T t&&((bif T.eqOk then !P.eqGuardType P.depth t&&Nat.ble T.deep 9999 else true)&&chkTys P r)
def chkBytes (P:Program):List (TypeId × Nat)→Bool
  | []=>true
  | (t,b)::r=>(match P.underlying t with | some (.slice e)=>(match P.info? e with | some i=>Nat.beq i.bytes b&&Nat.blt 0 b | none=>false) | _=>false)&&chkBytes P r
theorem chkTys_ok:∀ {l:List (TypeId × Ty)},chkTys P l=true→∀ t T,assoc l t=some T→TyOk P T t∧(T.eqOk=true→P.eqGuardType P.depth t=false∧T.deep≤9999)
  | [],_,_,_,e=>by cases e
  | (t0,T0)::r,h,t,T,e=>by
    simp only [chkTys,Bool.and_eq_true] at h
    simp only [assoc] at e
    cases hb:Nat.beq t0 t with
    | true =>
      rw [hb,cond_true] at e
      cases e
      have:=Nat.eq_of_beq_eq_true hb
      subst this
      refine ⟨chkTy_ok _ _ h.1,fun he=>?_⟩
      have h2:=h.2.1
      rw [he,cond_true] at h2
      simp only [Bool.and_eq_true,Bool.not_eq_true'] at h2
      exact ⟨h2.1,Nat.le_of_ble_eq_true h2.2⟩
    | false =>
      rw [hb,cond_false] at e
      exact chkTys_ok h.2.2 t T e
theorem chkBytes_ok:∀ {l:List (TypeId × Nat)},chkBytes P l=true→∀ t b,assoc l t=some b→∃ e i,P.underlying t=some (.slice e)∧P.info? e=some i∧i.bytes=b∧0 < b
  | [],_,_,_,e=>by cases e
  | (t0,b0)::r,h,t,b,e=>by
    simp only [chkBytes,Bool.and_eq_true] at h
    simp only [assoc] at e
    cases hb:Nat.beq t0 t with
    | true =>
      rw [hb,cond_true] at e
      cases e
      have:=Nat.eq_of_beq_eq_true hb
      subst this
      have h1:=h.1
      split at h1
      · rename_i e he
        split at h1
        · rename_i i hi
          simp only [Bool.and_eq_true] at h1
          exact ⟨e,i,he,hi,Nat.eq_of_beq_eq_true h1.1,Nat.le_of_ble_eq_true h1.2⟩
        · cases h1
      · cases h1
    | false =>
      rw [hb,cond_false] at e
      exact chkBytes_ok h.2 t b e
def chkPtrs (P:Program):List TypeId→Bool
  | []=>true
  | t::r=>(match P.underlying t with | some (.pointer _)=>true | _=>false)&&chkPtrs P r
theorem chkPtrs_ok:∀ {l:List TypeId},chkPtrs P l=true→∀ t,memN t l=true→∃ e,P.underlying t=some (.pointer e)
  | [],_,t,e=>by cases e
  | u::r,h,t,e=>by
    simp only [chkPtrs,Bool.and_eq_true] at h
    simp only [memN] at e
    cases hb:Nat.beq u t with
    | false =>
      rw [hb,cond_false] at e
      exact chkPtrs_ok h.2 t e
    | true =>
      have:u=t:=Nat.eq_of_beq_eq_true hb
      subst this
      have h1:=h.1
      split at h1
      · rename_i e' he; exact ⟨e',he⟩
      · cases h1
theorem tyAll_of (h1:chkTys P G.ty=true) (h2:chkBytes P G.bytes=true) (h3:P.follows .mixedOrders=true) (h4:chkPtrs P G.ptrs=true):TyAll P G where
  ty t T e:=(chkTys_ok h1 t T e).1
  bytes t b e:=chkBytes_ok h2 t b e
  eq t T e:=(chkTys_ok h1 t T e).2
  mixed:=h3
  ptrs:=chkPtrs_ok h4
end Go.Proofs.YtlkkebfjmbfgpaaGreatDoor.Ev
namespace Go.Proofs.YtlkkebfjmbfgpaaGreatDoor.Ev
open Go Go.RowKit Go.WideShapes
mutual
def Ty.bytesLo:Ty→Nat
  | .bool=>1
  | .int k=>k.bits / 8
  | .str=>16
  | .blob n=>n
  | .arr n e=>n*e.bytesLo
  | .struct fs=>Ty.bytesLoL fs
  | .slice _=>24
  | .fn=>8
  | .pat _=>8
  | .clos _ _=>8
def Ty.bytesLoL:List Ty→Nat
  | []=>0
  | t::ts=>t.bytesLo+Ty.bytesLoL ts
end
mutual
def Ty.Has:Ty→AV→Prop
  | .bool,x=>∃ b,x=.bool b
  | .int k,x=>∃ n,x=.int n∧(Lit.int k n).wf=true
  | .str,x=>∃ s,x=.str s∧s.length≤reachBytes
  | .blob n,x=>∃ l,x=.blob l∧l.length=n
  | .arr n e,x=>∃ l,x=.agg l∧l.length=n∧∀ (i:Nat) y,l[i]?=some y→e.Has y
  | .struct fs,x=>∃ l,x=.agg l∧Ty.HasL fs l
  | .slice e,x=>∃ l,x=.slice l∧l.length≤maxLen∧l.length*e.bytesLo≤reachBytes∧∀ (i:Nat) y,l[i]?=some y→e.Has y
  | .fn,_=>False
  | .pat _,_=>False
  | .clos _ _,_=>False
def Ty.HasL:List Ty→List AV→Prop
  | [],xs=>xs=[]
  | t::ts,xs=>∃ x r,xs=x::r∧t.Has x∧Ty.HasL ts r
end
mutual
def chkLo (P:Program):Ty→TypeId→Bool
  | .bool,_=>true
  | .int _,_=>true
  | .str,_=>true
  | .blob _,_=>true
  | .arr _ E,t=>match P.underlying t with | some (.array _ e)=>chkLo P E e | _=>false
  | .struct Fs,t=>match P.underlying t with | some (.struct fs)=>chkLoL P Fs fs.toList | _=>false
  | .slice E,t=>match P.underlying t with | some (.slice e)=>Nat.ble E.bytesLo (P.bytesOf e)&&chkLo P E e | _=>false
  | .fn,_=>false
  | .pat _,_=>false
  | .clos _ _,_=>false
def chkLoL (P:Program):List Ty→List Field→Bool
  | [],_=>true
  | T::Ts,fs=>match fs with
    | []=>false
    | f::r=>chkLo P T f.type&&chkLoL P Ts r
end
variable {H:Type} {enc:TypeId × Value→H} {P:Program} {w:World}
def all_ (w:World):Snap:=fun p=>w.cell? p
theorem cellsOf_base {T:Ty} {t:TypeId} (h:TBase P T t):P.cellsOf t=T.size:=by
  obtain ⟨i,h1,h2,_⟩:=h
  simp [Program.cellsOf,h1,h2]
theorem weights_all {e:TypeId}:∀ {l:List (DataW H)},(DataW.weightsAll P e l).all (·≤reachBytes)=true→∀ d∈l,(d.weights P e).all (·≤reachBytes)=true
  | [],_,d,hd=>by simp at hd
  | x::l,h,d,hd=>by
    simp only [DataW.weightsAll,List.all_append,Bool.and_eq_true] at h
    rcases List.mem_cons.1 hd with rfl | hd
    · exact h.1
    · exact weights_all h.2 d hd
theorem byte_open {fuel:Nat} {e:TypeId} (he:P.underlying e=some (.int .u8)) {cs:List Value} {x:DataW H × List MemPlace} (h:DataW.trod enc P w 0 (fun _=>true) true fuel e cs=some x):∃ b:UInt8,cs=[byteV b]:=by
  obtain ⟨n,rfl,_,hw⟩:=DataW.trod_int he h
  have h2:=wf_bounds hw
  simp only [IntKind.min,IntKind.max,IntKind.signed,IntKind.bits] at h2
  refine ⟨UInt8.ofNat n.toNat,?_⟩
  have h3:(UInt8.ofNat n.toNat).toNat=n.toNat % 256:=rfl
  have h4:n < 256:=by have:=h2.2; simp at this; omega
  have h5:0≤n:=by have:=h2.1; simpa using this
  unfold byteV
  rw [h3]
  congr 2
  omega
theorem blob_cells {e:TypeId} {fuel:Nat} (he:P.underlying e=some (.int .u8)):∀ (n:Nat) (cs:List Value),cs.length=n→(∀ i,i < n→∃ x,DataW.trod enc P w 0 (fun _=>true) true fuel e ((cs.drop i).take 1)=some x)→∃ l:List UInt8,l.length=n∧cs=l.map byteV
  | 0,cs,hl,_=>⟨[],rfl,by simpa using hl⟩
  | n+1,[],hl,_=>by simp at hl
  | n+1,c::cs,hl,h=>by
    obtain ⟨x,hx⟩:=h 0 (by omega)
    obtain ⟨b,hb⟩:=byte_open he hx
    simp at hb
    obtain ⟨l,h1,h2⟩:=blob_cells he n cs (by simpa using hl) fun i hi=>by simpa using h (i+1) (by omega)
    exact ⟨b::l,by simp [h1],by simp [hb,h2]⟩
theorem choose_list {R:Nat→AV→Prop}:∀ (n:Nat),(∀ i,i < n→∃ y,R i y)→∃ l:List AV,l.length=n∧∀ (i:Nat) y,l[i]?=some y→R i y
  | 0,_=>⟨[],rfl,by simp⟩
  | n+1,h=>by
    obtain ⟨l,h1,h2⟩:=choose_list n fun i hi=>h i (by omega)
    obtain ⟨y,hy⟩:=h n (by omega)
    refine ⟨l++[y],by simp [h1],fun i z hz=>?_⟩
    rcases Nat.lt_or_ge i n with hi | hi
    · exact h2 i z (by rw [List.getElem?_append_left (by omega)] at hz; exact hz)
    · rw [List.getElem?_append_right (by omega),h1] at hz
      have:i-n=0:=by
        have:=(List.getElem?_eq_some_iff.1 hz).1
        simp at this
        omega
      rw [this] at hz
      simp at hz
      subst hz
      rw [show i=n by omega]
      exact hy
mutual
theorem trod_open:∀ (T:Ty) (fuel:Nat) (t:TypeId) (cs:List Value) (x:DataW H × List MemPlace),TyOk P T t→chkLo P T t=true→DataW.trod enc P w 0 (fun _=>true) true fuel t cs=some x→(x.1.weights P t).all (·≤reachBytes)=true →
    ∃ y,Rep (all_ w) T cs y∧T.Has y
  | .bool,fuel,t,cs,x,hT,_,h,_=>by
    obtain ⟨b,rfl,_⟩:=DataW.trod_bool hT.2 h
    exact ⟨.bool b,⟨b,rfl,rfl⟩,b,rfl⟩
  | .int k,fuel,t,cs,x,hT,_,h,_=>by
    obtain ⟨n,rfl,_,hw⟩:=DataW.trod_int hT.2 h
    exact ⟨.int n,⟨n,rfl,rfl,hw⟩,n,rfl,hw⟩
  | .str,fuel,t,cs,x,hT,_,h,hwt=>by
    obtain ⟨s,rfl,rfl,hw⟩:=DataW.trod_string hT.2 h
    have hs:s.data.toList.length≤maxLen:=hw
    have hr:s.data.toList.length≤reachBytes:=by simpa [DataW.weights] using hwt
    exact ⟨.str s.data.toList,⟨s.data.toList,by simp,rfl,hs⟩,_,rfl,hr⟩
  | .blob n,fuel,t,cs,x,hT,_,h,_=>by
    obtain ⟨hb,e,hu,hue,hbe⟩:=hT
    obtain ⟨xs,m,rfl,_,hlen,hxl,hx⟩:=DataW.trod_array hu h
    have hce:P.cellsOf e=1:=cellsOf_base hbe
    have hct:P.cellsOf t=n:=by rw [cellsOf_base hb]; rfl
    obtain ⟨l,h1,h2⟩:=blob_cells (enc:=enc) (w:=w) (fuel:=m) hue n cs (by rw [hlen,hct]) fun i hi=>by
      have:=hx i hi
      rw [hce,Nat.mul_one] at this
      rw [this]
      exact ⟨_,List.getElem?_eq_getElem (by omega)⟩
    exact ⟨.blob l,⟨l,h1,h2,rfl⟩,l,rfl,h1⟩
  | .arr n E,fuel,t,cs,x,hT,hlo,h,hw=>by
    obtain ⟨hb,e,hu,hE⟩:=hT
    simp only [chkLo,hu] at hlo
    obtain ⟨xs,m,rfl,rfl,hlen,hxl,hx⟩:=DataW.trod_array hu h
    have hce:P.cellsOf e=E.size:=cellsOf_base hE.base
    have hct:P.cellsOf t=n*E.size:=by rw [cellsOf_base hb]; rfl
    simp only [DataW.weights,hu] at hw
    obtain ⟨l,h1,h2⟩:=choose_list (R:=fun i y=>Rep (all_ w) E ((cs.drop (i*E.size)).take E.size) y∧E.Has y) n fun i hi=>by
      have h3:=hx i hi
      rw [hce,List.getElem?_eq_getElem (by omega)] at h3
      exact trod_open E m e _ _ hE hlo h3 (weights_all hw _ (List.mem_map_of_mem (List.getElem_mem _)))
    refine ⟨.agg l,?_,l,rfl,h1,fun i y hy=>(h2 i y hy).2⟩
    simp only [Rep]
    exact ⟨l,rfl,h1,by rw [hlen,hct],fun i y hy=>(h2 i y hy).1⟩
  | .struct Fs,fuel,t,cs,x,hT,hlo,h,hw=>by
    obtain ⟨hb,_,fs,hu,hF⟩:=hT
    simp only [chkLo,hu] at hlo
    obtain ⟨xs,m,rfl,rfl,hlen,hxl,hx⟩:=DataW.trod_struct hu h
    have hct:P.cellsOf t=Ty.sizeL Fs:=by rw [cellsOf_base hb]; rfl
    simp only [DataW.weights,hu] at hw
    obtain ⟨l,h1,h2⟩:=struct_open Fs m fs.toList 0 cs xs hF hlo (by rw [hlen,hct]; omega) (by simpa using hxl) (fun i f hf=>hx i f (by simpa using hf)) hw
    refine ⟨.agg l,?_,l,rfl,h2⟩
    simp only [Rep]
    exact ⟨l,rfl,by simpa using h1⟩
  | .slice E,fuel,t,cs,x,hT,hlo,h,hw=>by
    obtain ⟨hb,hpos,e,hu,hE⟩:=hT
    simp only [chkLo,hu,Bool.and_eq_true] at hlo
    have hce:P.cellsOf e=E.size:=cellsOf_base hE.base
    rcases DataW.trod_slice hu h with ⟨rfl,_⟩ | ⟨a,len,cap,elems,rest,m,rfl,rfl,rfl,_,h1,h2,h3,h4,_⟩
    · refine ⟨.slice [],?_,[],rfl,by simp,by simp,by simp⟩
      simp only [Rep]
      exact ⟨none,0,0,[],rfl,rfl,rfl,Nat.le_refl _,by simp [maxLen],fun _=>rfl,by simp⟩
    · simp only [DataW.weights,hu,List.all_cons,List.all_append,Bool.and_eq_true,decide_eq_true_eq] at hw
      obtain ⟨hw1,hw2,_⟩:=hw
      obtain ⟨l,q1,q2⟩:=choose_list (R:=fun i y=>∃ ds,(all_ w).has (a.add (i*E.size)) ds∧ds.length=E.size∧Rep (all_ w) E ds y∧E.Has y) len fun i hi=>by
        have h5:=h4 i hi
        rw [hce,List.getElem?_eq_getElem (by omega)] at h5
        obtain ⟨ds,hds,h5⟩:=bind_some h5
        obtain ⟨y,y1,y2⟩:=trod_open E m e ds _ hE hlo.2 h5 (weights_all hw2 _ (List.mem_map_of_mem (List.getElem_mem _)))
        obtain ⟨_,c1,c2⟩:=World.cells?_some hds
        refine ⟨y,ds,fun j v hj=>?_,c1,y1,y2⟩
        have:=(List.getElem?_eq_some_iff.1 hj).1
        show w.cell? _=_
        rw [c2 j (by omega),hj]
      refine ⟨.slice l,?_,l,rfl,by omega,?_,fun i y hy=>?_⟩
      · simp only [Rep]
        refine ⟨some a,len,cap,l,rfl,rfl,q1,h1,h2,(fun e=>by cases e),fun p hp i y hy=>?_⟩
        cases hp
        obtain ⟨ds,k1,k2,k3,_⟩:=q2 i y hy
        exact ⟨ds,k1,k2,k3⟩
      · refine Nat.le_trans (Nat.mul_le_mul ?_ (Nat.le_of_ble_eq_true hlo.1)) hw1
        simp
        omega
      · obtain ⟨ds,_,_,_,k4⟩:=q2 i y hy
        exact k4
  | .fn,fuel,t,cs,x,_,hlo,_,_=>by cases hlo
  | .pat _,fuel,t,cs,x,_,hlo,_,_=>by cases hlo
  | .clos _ _,fuel,t,cs,x,_,hlo,_,_=>by cases hlo
theorem struct_open:∀ (Ts:List Ty) (fuel:Nat) (fs:List Field) (off:Nat) (cs:List Value) (xs:List (DataW H × List MemPlace)),TyOkL P Ts fs off→chkLoL P Ts fs=true→cs.length=off+Ty.sizeL Ts→xs.length=fs.length →
      (∀ (i:Nat) (f:Field),fs[i]?=some f→DataW.trod enc P w 0 (fun _=>true) true fuel f.type ((cs.drop f.offset).take (P.cellsOf f.type))=xs[i]?)→(DataW.weightsEach P (fs.map (·.type)) (xs.map (·.1))).all (·≤reachBytes)=true →
      ∃ l,RepL (all_ w) Ts (cs.drop off) l∧Ty.HasL Ts l
  | [],fuel,fs,off,cs,xs,h,_,hl,_,_,_=>⟨[],by simp only [RepL]; exact ⟨by simp [Ty.sizeL] at hl; simp; omega,trivial⟩,rfl⟩
  | T::Ts,fuel,fs,off,cs,xs,h,hlo,hl,hxl,hm,hw=>by
    simp only [TyOkL] at h
    obtain ⟨f,r,rfl,rfl,_,hpos,hT,hr⟩:=h
    simp only [chkLoL,Bool.and_eq_true] at hlo
    match xs,hxl with
    | x::xs,hxl =>
      have hx:=hm 0 f rfl
      simp only [List.map_cons,DataW.weightsEach,List.all_append,Bool.and_eq_true] at hw
      have hc:P.cellsOf f.type=T.size:=cellsOf_base hT.base
      obtain ⟨y,hy1,hy2⟩:=trod_open T fuel f.type _ x hT hlo.1 hx hw.1
      obtain ⟨l,hl1,hl2⟩:=struct_open Ts fuel r (f.offset+T.size) cs xs hr hlo.2 (by simp only [Ty.sizeL] at hl; omega) (by simpa using hxl) (fun i g hg=>hm (i+1) g hg) hw.2
      rw [hc] at hy1
      refine ⟨y::l,?_,y,l,rfl,hy2,hl2⟩
      simp only [RepL]
      simp only [Ty.sizeL] at hl
      exact ⟨y,l,rfl,by simp; omega,hy1,by rw [List.drop_drop]; exact hl1⟩
end
theorem arg_open {T:Ty} {t:TypeId} {v:Value} {d:DataW H} {ps:List MemPlace} {base:Nat} (hT:TyOk P T t) (hlo:chkLo P T t=true) (ho:Value.okWide P w .any base t v) (h:DataW.Trod enc P w 0 (fun _=>true) true t v d ps) (hw:(d.weights P t).all (·≤reachBytes)=true) :
    ∃ y,VRep (all_ w) T v y∧T.Has y:=by
  obtain ⟨fuel,h⟩:=h
  obtain ⟨y,h1,h2⟩:=trod_open T fuel t _ _ hT hlo h hw
  refine ⟨y,⟨v.cells.toList,?_,h1⟩,h2⟩
  have agg:T.isAgg=true→(∃ cs,v=.agg cs)→v=T.val v.cells.toList:=fun ha ⟨cs,e⟩=>by
    subst e
    simp [Ty.val,ha,Value.cells]
  cases T with
  | bool=>obtain ⟨b,rfl⟩:=okWide_bool hT.2 ho; rfl
  | int k=>obtain ⟨b,rfl⟩:=okWide_int hT.2 ho; rfl
  | str=>obtain ⟨b,rfl⟩:=okWide_string hT.2 ho; rfl
  | blob n =>
    obtain ⟨_,e,hu,_⟩:=hT
    simp only [Value.okWide,hu] at ho
    exact agg rfl ⟨_,ho.choose_spec.1⟩
  | arr n E =>
    obtain ⟨_,e,hu,_⟩:=hT
    simp only [Value.okWide,hu] at ho
    exact agg rfl ⟨_,ho.choose_spec.1⟩
  | struct fs =>
    obtain ⟨_,_,e,hu,_⟩:=hT
    simp only [Value.okWide,hu] at ho
    exact agg rfl ⟨_,ho.choose_spec.1⟩
  | slice E =>
    obtain ⟨_,_,e,hu,_⟩:=hT
    obtain ⟨a,l,c,rfl⟩:=okWide_slice hu ho
    rfl
  | fn=>cases hlo
  | pat t=>cases hlo
  | clos a ts=>cases hlo
def chkArgs (P:Program):List Ty→List TypeId→Bool
  | [],ts=>ts.isEmpty
  | T::Ts,ts=>match ts with
    | []=>false
    | t::r=>chkTy P T t&&(chkLo P T t&&(P.readableRec t&&(decide (t < P.types.size)&&chkArgs P Ts r)))
theorem args_open:∀ (Ts:List Ty) (ts:List TypeId) (vs:List Value) (ds:List (DataW H)) (ps:List MemPlace) (base:Nat),chkArgs P Ts ts=true→DataW.TrodAll enc P w 0 (fun _=>true) true ts vs ds ps →
    (∀ (j:Nat) t v,ts[j]?=some t→vs[j]?=some v→Value.okWide P w .any base t v)→(DataW.weightsEach P ts ds).all (·≤reachBytes)=true→∃ xs,ArgsRel (all_ w) w (Ts.map .val) vs xs []∧Ty.HasL Ts xs
  | [],ts,vs,ds,ps,base,hc,h,_,_=>by
    cases ts with
    | cons t ts=>cases hc
    | nil =>
      cases vs <;> cases ds <;> first | exact h.elim | exact ⟨[],⟨rfl,rfl,rfl⟩,rfl⟩
  | T::Ts,ts,vs,ds,ps,base,hc,h,ho,hw=>by
    cases ts with
    | nil=>cases hc
    | cons t ts =>
      simp only [chkArgs,Bool.and_eq_true] at hc
      cases vs with
      | nil=>cases ds <;> exact h.elim
      | cons v vs =>
        cases ds with
        | nil=>exact h.elim
        | cons d ds =>
          obtain ⟨p,q,h1,h2,rfl⟩:=h
          simp only [DataW.weightsEach,List.all_append,Bool.and_eq_true] at hw
          obtain ⟨x,k1,k2⟩:=arg_open (chkTy_ok _ _ hc.1) hc.2.1 (ho 0 t v rfl rfl) h1 hw.1
          obtain ⟨xs,k3,k4⟩:=args_open Ts ts vs ds q base hc.2.2.2.2 h2 (fun j t' v' a b=>ho (j+1) t' v' a b) hw.2
          exact ⟨x::xs,⟨v,vs,x,xs,rfl,rfl,k1,k3⟩,x,xs,rfl,k2,k4⟩
theorem args_below {W':World} (hl:laidOutB P=true) (hb:Below w.heap.size w W'):∀ (Ts:List Ty) (ts:List TypeId) (vs:List Value) (ds:List (DataW H)) (ps:List MemPlace),chkArgs P Ts ts=true→DataW.TrodAll enc P w 0 (fun _=>true) true ts vs ds ps →
    DataW.TrodAll enc P W' 0 (fun b=>decide (b < w.heap.size)) true ts vs ds ps
  | [],ts,vs,ds,ps,hc,h=>by
    cases ts with
    | cons t ts=>cases hc
    | nil=>cases vs <;> cases ds <;> first | exact h.elim | exact h
  | T::Ts,ts,vs,ds,ps,hc,h=>by
    cases ts with
    | nil=>cases hc
    | cons t ts =>
      simp only [chkArgs,Bool.and_eq_true,decide_eq_true_eq] at hc
      cases vs with
      | nil=>cases ds <;> exact h.elim
      | cons v vs =>
        cases ds with
        | nil=>exact h.elim
        | cons d ds =>
          obtain ⟨p,q,h1,h2,rfl⟩:=h
          refine ⟨p,q,Below.trod hl hc.2.2.1 hc.2.2.2.1 h1 hb ?_,args_below hl hb Ts ts vs ds q hc.2.2.2.2 h2,rfl⟩
          obtain ⟨m,hm⟩:=h1
          exact DataW.trod_lt m _ _ _ hm
theorem law_calls {f:FuncId} {i:FnInfo} {Ts:List Ty} {ts:List TypeId} {vs:List Value} {ds:List (DataW H)} {ps:List MemPlace} {base:Nat} (hp:i.params=Ts.map .val) (hr:i.results=[.val .bool]) (hc:chkArgs P Ts ts=true)
    (hs:∀ xs,Ty.HasL Ts xs→∃ r,r.vals=[.bool true]∧Sat P i f xs r) (h:DataW.TrodAll enc P w 0 (fun _=>true) true ts vs ds ps)
    (ho:∀ (j:Nat) t v,ts[j]?=some t→vs[j]?=some v→Value.okWide P w .any base t v) (hw:(DataW.weightsEach P ts ds).all (·≤reachBytes)=true) :
    Calls P f vs.toArray w fun e w'=>e=.returned (.bool true)∧Below w.heap.size w w':=by
  obtain ⟨xs,h1,h2⟩:=args_open Ts ts vs ds ps base hc h ho hw
  obtain ⟨r,hv,hsat⟩:=hs xs h2
  refine (hsat (all_ w) w vs [] (fun p v e=>e) (by rw [hp]; exact h1) List.nodup_nil).mono ?_
  rintro e w' ⟨S,v,rfl,_,_,_,hk,hres,_⟩
  refine ⟨?_,hk.below⟩
  rw [hr] at hres
  obtain ⟨x,e1,e2,_⟩:=hres
  rw [hv] at e1
  cases e1
  obtain ⟨b,rfl,e3⟩:=e2.bool
  cases e3
  rfl
end Go.Proofs.YtlkkebfjmbfgpaaGreatDoor.Ev
namespace Go.Proofs.YtlkkebfjmbfgpaaGreatDoor.Ev
open Go Go.RowKit
variable {G:Env} {run run':Run} {α:Type} {r:α}
theorem callK_mono (h:∀ g xs r,run g xs=some r→run' g xs=some r) {s:St} {d:Option Nat} {f:FuncId} {caps:List Pt} {xs:List Operand} {fx:Eff} (hk:callK G run s d f caps xs some=some fx):callK G run' s d f caps xs some=some fx:=by
  unfold callK at hk ⊢
  refine bind_par hk fun i _ hk=>bind_par hk fun l _ hk=>cond_par hk fun _ hk=>?_
  obtain ⟨r,hr,hk⟩:=bind_some hk
  rw [h _ _ _ hr]
  exact hk
theorem closK_mono (h:∀ g xs r,run g xs=some r→run' g xs=some r) {s:St} {d:Option Nat} {ts:List Ty} {x:AV} {os:List Operand} {fx:Eff}:∀ {l:List (Nat × (List Nat × List Nat))},closK G run s d ts x os some l=some fx→closK G run' s d ts x os some l=some fx
  | [],hk=>by cases hk
  | (g,(gs,gp))::r,hk=>by
    simp only [closK] at hk ⊢
    refine cond_par2 hk (fun _ hk=>cond_par2 hk (fun _ hk=>hk) fun _ hk=>bind_par hk fun i _ hk=>bind_par hk fun l _ hk=>?_) (fun _ hk=>closK_mono h hk)
    unfold callV at hk ⊢
    obtain ⟨q,hq,hk⟩:=bind_some hk
    rw [h _ _ _ hq]
    exact hk
theorem opK_mono (h:∀ g xs r,run g xs=some r→run' g xs=some r) {o:Oper} {s:St} {fx:Eff} (hk:opK G run o s some=some fx):opK G run' o s some=some fx:=by
  cases ho:o.op <;> simp only [opK,ho] at hk ⊢ <;> (try exact hk)
  case makeFunc F first caps=>cases F <;> exact hk
  case call cl =>
    cases hcl:cl.callee <;> simp only [hcl] at hk ⊢ <;> (try exact hk)
    case value F =>
      cases F <;> simp only at hk ⊢ <;> (try exact hk)
      case tmp t =>
        generalize s.look t=e at hk ⊢
        split at hk
        · exact callK_mono h hk
        · exact callK_mono h hk
        · exact closK_mono h hk
        · cases hk
      case func g=>exact callK_mono h hk
theorem stepK_mono (h:∀ g xs r,run g xs=some r→run' g xs=some r) {ops:List Oper} {o:Oper} {s:St} {fx:Eff} (hk:stepK G run ops o s some=some fx):stepK G run' ops o s some=some fx:=by
  unfold stepK at hk ⊢
  cases hg:o.guard with
  | none=>rw [hg] at hk; exact opK_mono h hk
  | some g =>
    rw [hg] at hk
    exact bind_par hk fun _ _ hk=>bind_par hk fun _ _ hk=>cond_par2 hk (fun _ hk=>opK_mono h hk) fun _ hk=>hk
theorem opsK_mono (h:∀ g xs r,run g xs=some r→run' g xs=some r) {all:List Oper} {K K':St→Option α} (hK:∀ s,K s=some r→K' s=some r):∀ (l:List Oper) (s:St),opsK G run all l K s=some r→opsK G run' all l K' s=some r
  | [],s,hk=>hK s hk
  | o::l,s,hk=>by
    simp only [opsK] at hk ⊢
    refine cond_par hk fun _ hk=>?_
    rw [refineK_eq,stepK_cps] at hk ⊢
    obtain ⟨f,hf,hk⟩:=bind_some hk
    rw [stepK_mono h hf]
    exact opsK_mono h hK l _ hk
theorem drawnK_mono (h:∀ g xs r,run g xs=some r→run' g xs=some r) {all:List Oper} {K K':St→Option α} (hK:∀ s,K s=some r→K' s=some r):∀ (l:List Oper) (bs:List (List Nat)) (fs:List Foot) (s:St),drawnK G run all l bs fs K s=some r→drawnK G run' all l bs fs K' s=some r
  | [],bs,fs,s,hk=>hK s hk
  | o::l,bs,fs,s,hk=>by
    simp only [drawnK] at hk ⊢
    refine cond_par hk fun _ hk=>?_
    rw [refineK_eq,stepK_cps] at hk ⊢
    obtain ⟨f,hf,hk⟩:=bind_some hk
    rw [stepK_mono h hf]
    exact cond_par hk fun _ hk=>drawnK_mono h hK l _ _ _ hk
theorem seqK_mono {f f':St→Option α} {K K':Ex→St→Option α} (hf:∀ s,f s=some r→f' s=some r) (hK:∀ e s,K e s=some r→K' e s=some r):∀ e s,seqK f K e s=some r→seqK f' K' e s=some r
  | .normal,s,h=>hf s h
  | .exit id,s,h=>hK (.exit id) s h
  | .ret,s,h=>hK .ret s h
  | .goto l,s,h=>hK (.goto l) s h
theorem meetAt_mono {n n':Nat} (hn:n≤n') {keep:List (Nat × (List Nat × List Nat))} {id:Option Nat} {f f':St→Option α} (hf:∀ s,f s=some r→f' s=some r):∀ s,meetAt n keep id f s=some r→meetAt n' keep id f' s=some r:=fun s h=>by
  unfold meetAt at h ⊢
  split at h
  · split at h
    · cases n with
      | zero=>cases h
      | succ n =>
        obtain ⟨m,rfl⟩:∃ m,n'=m+1:=⟨n'-1,by omega⟩
        exact hf _ h
    · exact hf _ h
  · exact hf _ h
theorem blockK_mono {id:Nat} {K K':Ex→St→Option α} (hK:∀ e s,K e s=some r→K' e s=some r):∀ e s,blockK id K e s=some r→blockK id K' e s=some r
  | .normal,s,h=>hK .normal s h
  | .exit id',s,h=>cond_par2 h (fun _ h=>hK .normal s h) fun _ h=>hK (.exit id') s h
  | .ret,s,h=>hK .ret s h
  | .goto l,s,h=>hK (.goto l) s h
theorem jumpK_mono (l:Nat) {f f':St→Option α} {K K':Ex→St→Option α} (hf:∀ s,f s=some r→f' s=some r) (hK:∀ e s,K e s=some r→K' e s=some r):∀ e s,jumpK l K f e s=some r→jumpK l K' f' e s=some r
  | .normal,s,h=>hK .normal s h
  | .exit id,s,h=>hK (.exit id) s h
  | .ret,s,h=>hK .ret s h
  | .goto _,s,h=>cond_par h fun _ h=>hf s h
theorem aheadK_mono {f f':St→Option α} {K K':Ex→St→Option α} (hf:∀ s,f s=some r→f' s=some r) (hK:∀ e s,K e s=some r→K' e s=some r):∀ e s,aheadK f K e s=some r→aheadK f' K' e s=some r
  | .normal,s,h=>hf s h
  | .exit id,s,h=>hK (.exit id) s h
  | .ret,s,h=>hK .ret s h
  | .goto _,_,h=>by cases h
theorem iterK_mono {step step':(Ex→St→Option α)→St→Option α} {ks ko:List Nat} (hs:∀ (K K':Ex→St→Option α),(∀ e s,K e s=some r→K' e s=some r)→∀ s,step K s=some r→step' K' s=some r) {K K':Ex→St→Option α} (hK:∀ e s,K e s=some r→K' e s=some r) :
    ∀ (n n':Nat) (s:St),n≤n'→iterK step ks ko K n s=some r→iterK step' ks ko K' n' s=some r
  | 0,_,_,_,h=>by cases h
  | n+1,0,_,hn,_=>by omega
  | n+1,n'+1,s,hn,h=>by
    simp only [iterK] at h ⊢
    exact hs _ _ (seqK_mono (fun s h=>iterK_mono hs hK n n' _ (by omega) h) hK) s h
theorem roundK_mono {step step':(Ex→St→Option α)→St→Option α} {l:Nat} {ks ko:List Nat} (hs:∀ (K K':Ex→St→Option α),(∀ e s,K e s=some r→K' e s=some r)→∀ s,step K s=some r→step' K' s=some r) {K K':Ex→St→Option α} (hK:∀ e s,K e s=some r→K' e s=some r) :
    ∀ (n n':Nat) (s:St),n≤n'→roundK step l ks ko K n s=some r→roundK step' l ks ko K' n' s=some r
  | 0,_,_,_,h=>by cases h
  | n+1,0,_,hn,_=>by omega
  | n+1,n'+1,s,hn,h=>by
    simp only [roundK] at h ⊢
    exact hs _ _ (jumpK_mono l (fun s h=>roundK_mono hs hK n n' _ (by omega) h) hK) s h
theorem scopeK_cases {b:Nat} {c:Code} {K:Ex→St→Option α} {s:St} {n:Nat} {keep:List (Nat × (List Nat × List Nat))} (hk:evalK G run n keep b (.scope c) K s=some r):∃ x l d,c=.seq x (.seq (.label l) d):=by
  obtain ⟨x,l,d,_,hc,_⟩:=scopeK_some hk
  exact ⟨x,l,d,hc⟩
theorem evalK_mono (h:∀ g xs r,run g xs=some r→run' g xs=some r) {n n':Nat} (hn:n≤n') (keep:List (Nat × (List Nat × List Nat))):∀ (c:Code) (b:Nat) (K K':Ex→St→Option α),(∀ e s,K e s=some r→K' e s=some r)→∀ s,evalK G run n keep b c K s=some r→evalK G run' n' keep b c K' s=some r
  | .skip,b,K,K',hK,s,hk=>hK .normal s hk
  | .region id ops draw,b,K,K',hK,s,hk=>by
    simp only [evalK] at hk ⊢
    exact cond_par2 hk (fun _ hk=>cond_par hk fun _ hk=>drawnK_mono h (hK .normal) _ _ _ s hk) fun _ hk=>opsK_mono h (hK .normal) _ s hk
  | .seq x y,b,K,K',hK,s,hk=>evalK_mono h hn keep x b _ _ (seqK_mono (meetAt_mono hn (evalK_mono h hn keep y b K K' hK)) hK) s hk
  | .cond c x y,b,K,K',hK,s,hk=>by
    simp only [evalK] at hk ⊢
    exact bind_par hk fun _ _ hk=>cond_par2 hk (fun _ hk=>evalK_mono h hn keep x b K K' hK s hk) fun _ hk=>evalK_mono h hn keep y b K K' hK s hk
  | .block id x,b,K,K',hK,s,hk=>evalK_mono h hn keep x id _ _ (blockK_mono hK) s hk
  | .loop x,b,K,K',hK,s,hk=>by
    simp only [evalK] at hk ⊢
    exact bind_par hk fun _ _ hk=>iterK_mono (fun K K' hK s hk=>evalK_mono h hn keep x b K K' hK s hk) hK n n' _ hn hk
  | .exit id,b,K,K',hK,s,hk=>hK (.exit id) s hk
  | .ret,b,K,K',hK,s,hk=>hK .ret s hk
  | .rangeFunc _ _ _ _,_,_,_,_,_,hk=>by cases hk
  | .scope c,b,K,K',hK,s,hk=>by
    obtain ⟨x,l,d,hc⟩:=scopeK_cases hk
    have hx:SizeOf.sizeOf x < SizeOf.sizeOf (Code.scope c):=by rw [hc]; simp only [Code.scope.sizeOf_spec,Code.seq.sizeOf_spec]; omega
    have hd:SizeOf.sizeOf d < SizeOf.sizeOf (Code.scope c):=by rw [hc]; simp only [Code.scope.sizeOf_spec,Code.seq.sizeOf_spec]; omega
    rw [hc] at hk ⊢
    simp only [evalK] at hk ⊢
    refine bind_par hk fun ks _ hk=>cond_par hk fun _ hk=>?_
    exact evalK_mono h hn keep x b _ _ (aheadK_mono (fun s hk=>roundK_mono (fun K K' hK s hk=>evalK_mono h hn keep d b K K' hK s hk) hK n n' _ hn hk) hK) s hk
  | .label _,_,_,_,_,_,hk=>by cases hk
  | .goto l,b,K,K',hK,s,hk=>hK (.goto l) s hk
  | .refuse _,_,_,_,_,_,hk=>by cases hk
termination_by c=>SizeOf.sizeOf c
theorem runE_step {ext:Run} (hE:∀ f xs r,ext f xs=some r→∀ m,runE G ext m f xs=some r):∀ (n:Nat) f xs r,runE G ext n f xs=some r→runE G ext (n+1) f xs=some r
  | 0,f,xs,r,h=>hE f xs r h 1
  | n+1,f,xs,r,h=>by
    have ih:=runE_step hE n
    rw [runE] at h ⊢
    simp only at h ⊢
    cases hf:assoc G.fns f with
    | none=>rw [hf] at h; exact h
    | some i =>
      rw [hf] at h
      exact cond_par2 h (fun _ h=>h) fun _ h=>evalK_mono ih (Nat.le_succ n) _ _ _ _ _ (fun _ _ h=>h) _ h
theorem runE_mono {ext:Run} (hE:∀ f xs r,ext f xs=some r→∀ m,runE G ext m f xs=some r) {n m:Nat} (hn:n≤m) {f:FuncId} {xs:List AV} {r:Res} (h:runE G ext n f xs=some r):runE G ext m f xs=some r:=by
  induction hn with
  | refl=>exact h
  | step _ ih=>exact runE_step hE _ f xs r ih
def ltI (a b:Int):Bool:=decide (a < b)
def leI (a b:Int):Bool:=decide (a≤b)
def eqI (a b:Int):Bool:=decide (a=b)
def eqS (a b:List UInt8):Bool:=decide (a=b)
def eqO (a b:Bool):Bool:=decide (a=b)
theorem ltI_t {a b:Int} (h:a < b):ltI a b=true:=decide_eq_true h
theorem ltI_f {a b:Int} (h:¬ a < b):ltI a b=false:=decide_eq_false h
theorem leI_t {a b:Int} (h:a≤b):leI a b=true:=decide_eq_true h
theorem leI_f {a b:Int} (h:¬ a≤b):leI a b=false:=decide_eq_false h
theorem eqI_t {a b:Int} (h:a=b):eqI a b=true:=decide_eq_true h
theorem eqI_f {a b:Int} (h:¬ a=b):eqI a b=false:=decide_eq_false h
theorem eqS_t {a b:List UInt8} (h:a=b):eqS a b=true:=decide_eq_true h
theorem eqS_f {a b:List UInt8} (h:¬ a=b):eqS a b=false:=decide_eq_false h
theorem eqS_iff {a b:List UInt8}:eqS a b=true ↔ a=b:=decide_eq_true_iff
theorem ltI_iff {a b:Int}:ltI a b=true ↔ a < b:=decide_eq_true_iff
theorem leI_iff {a b:Int}:leI a b=true ↔ a≤b:=decide_eq_true_iff
def Evt (p:Nat→Prop):Prop:=∃ n0,∀ n,n0≤n→p n
theorem Evt.and {p q:Nat→Prop} (h:Evt p) (k:Evt q):Evt fun n=>p n∧q n:=by
  obtain ⟨a,h⟩:=h
  obtain ⟨b,k⟩:=k
  exact ⟨a+b,fun n hn=>⟨h n (by omega),k n (by omega)⟩⟩
theorem Evt.mono {p q:Nat→Prop} (h:Evt p) (hq:∀ n,p n→q n):Evt q:=by
  obtain ⟨a,h⟩:=h
  exact ⟨a,fun n hn=>hq n (h n hn)⟩
theorem Evt.of {p:Nat→Prop} (h:∀ n,p n):Evt p:=⟨0,fun n _=>h n⟩
theorem Evt.ge (m:Nat):Evt fun n=>m≤n:=⟨m,fun _ h=>h⟩
theorem Evt.succ {p:Nat→Prop} (h:Evt fun n=>p (n+1)):Evt p:=by
  obtain ⟨a,h⟩:=h
  exact ⟨a+1,fun n hn=>by obtain ⟨m,rfl⟩:∃ m,n=m+1:=⟨n-1,by omega⟩; exact h m (by omega)⟩
theorem Evt.pred {p:Nat→Prop} (h:Evt p):Evt fun n=>p (n+1):=by
  obtain ⟨a,h⟩:=h
  exact ⟨a,fun n hn=>h _ (by omega)⟩
theorem Evt.ex {p:Nat→Prop} (h:Evt p):∃ n,p n:=by
  obtain ⟨a,h⟩:=h
  exact ⟨a,h a (Nat.le_refl a)⟩
theorem Evt.all {p:Nat→Nat→Prop}:∀ (m:Nat),(∀ i,i < m→Evt (p i))→Evt fun n=>∀ i,i < m→p i n
  | 0,_=>.of fun _ i hi=>by omega
  | m+1,h=>((Evt.all m fun i hi=>h i (by omega)).and (h m (by omega))).mono fun n hn i hi=>by
    rcases Nat.lt_or_ge i m with h1 | h1
    · exact hn.1 i h1
    · rw [show i=m by omega]; exact hn.2
end Go.Proofs.YtlkkebfjmbfgpaaGreatDoor.Ev
namespace Go.Proofs.YtlkkebfjmbfgpaaGreatDoor.Ev
open Go Go.RowKit
theorem w64 {x:Int} (h1:-9223372036854775808≤x) (h2:x≤9223372036854775807):IntKind.wrap .i64 x=x:=by
  simp [IntKind.wrap,IntKind.signed,IntKind.bits]
  split <;> omega
theorem wf64 {x:Int} (h:(Lit.int .i64 x).wf=true):-9223372036854775808≤x∧x≤9223372036854775807:=by
  have:=wf_bounds h
  simpa [IntKind.min,IntKind.max,IntKind.signed,IntKind.bits] using this
theorem inR_yes {i:Int} {n:Nat} (h1:0≤i) (h2:i < n):inR i n=true:=by simp [inR,h1,h2]
theorem inR_nat {i n:Nat} (h:i < n):inR (i:Int) n=true:=inR_yes (by omega) (by omega)
theorem maxLen_eq:maxLen=9223372036854775807:=rfl
theorem nth_lt {l:List AV} {i:Nat} (h:i < l.length):nth l i=l[i]:=by simp [nth,h]
theorem bind_run {α β:Type} (x:α) (f:α→Option β):(some x).bind f=f x:=rfl
theorem consV_c {α β:Type} (v:β) (r:List β) (k:β→List β→Option α):consV (v::r) k=k v r:=rfl
theorem nilV_n {α β:Type} (k:Option α):nilV ([]:List β) k=k:=rfl
theorem toInt_i (n:Int):(AV.int n).toInt=n:=rfl
theorem toBool_b (b:Bool):(AV.bool b).toBool=b:=rfl
theorem toStr_s (l:List UInt8):(AV.str l).toStr=l:=rfl
theorem toBlob_b (l:List UInt8):(AV.blob l).toBlob=l:=rfl
theorem toSlice_s (l:List AV):(AV.slice l).toSlice=l:=rfl
theorem toAgg_a (l:List AV):(AV.agg l).toAgg=l:=rfl
theorem not_t:(!true)=false:=rfl
theorem not_f:(!false)=true:=rfl
def noExt:Run:=fun _ _=>none
def Runs (G:Env) (ext:Run) (f:FuncId) (xs:List AV) (r:Res):Prop:=Evt fun n=>runE G ext n f xs=some r
theorem Runs.of_eval {G:Env} {f:FuncId} {xs:List AV} {r:Res} (n:Nat) (h:runE G noExt n f xs=some r):Runs G noExt f xs r :=
  ⟨n,fun _ hm=>runE_mono (by simp [noExt]) hm h⟩
theorem sat_of_runs {P:Program} {G:Env} (hT:TyAll P G) (hA:FnsAll P G.fns) {f:FuncId} {i:FnInfo} {xs:List AV} {r:Res} (hi:assoc G.fns f=some i) (h:Runs G noExt f xs r):Sat P i f xs r:=by
  obtain ⟨n,h⟩:=h.ex
  exact (runE_sound hT hA (by simp [noExt]) n).sat f i xs r hi h
end Go.Proofs.YtlkkebfjmbfgpaaGreatDoor.Ev
namespace Go.Proofs.YtlkkebfjmbfgpaaGreatDoor.Ev
open Go Go.RowKit
def U {n:Nat} (b:BitVec n):Int:=(b.toNat:Int)
theorem U_lt {n:Nat} (b:BitVec n):0≤U b∧U b < 2^n:=by
  have:=b.isLt
  unfold U
  exact ⟨by omega,by exact_mod_cast this⟩
theorem ofInt_U {n:Nat} (b:BitVec n):BitVec.ofInt n (U b)=b:=by
  unfold U
  rw [BitVec.ofInt_natCast,BitVec.ofNat_toNat,BitVec.setWidth_eq]
theorem wrap32 (x:Int):IntKind.wrap .u32 x=x % 4294967296:=by simp [IntKind.wrap,IntKind.signed,IntKind.bits]
theorem wrap64 (x:Int):IntKind.wrap .u64 x=x % 18446744073709551616:=by simp [IntKind.wrap,IntKind.signed,IntKind.bits]
theorem wrap8 (x:Int):IntKind.wrap .u8 x=x % 256:=by simp [IntKind.wrap,IntKind.signed,IntKind.bits]
theorem U32 (x:Int):IntKind.wrap .u32 x=U (BitVec.ofInt 32 x):=by
  rw [wrap32]; unfold U; rw [BitVec.toNat_ofInt]; omega
theorem U64 (x:Int):IntKind.wrap .u64 x=U (BitVec.ofInt 64 x):=by
  rw [wrap64]; unfold U; rw [BitVec.toNat_ofInt]; omega
theorem ofInt_toNat {n:Nat} (b:BitVec n):BitVec.ofInt n (b.toNat:Int)=b:=ofInt_U b
theorem u32_add (a b:BitVec 32):IntKind.wrap .u32 (U a+U b)=U (a+b):=by rw [U32,BitVec.ofInt_add,ofInt_U,ofInt_U]
theorem u64_add (a b:BitVec 64):IntKind.wrap .u64 (U a+U b)=U (a+b):=by rw [U64,BitVec.ofInt_add,ofInt_U,ofInt_U]
theorem u32_xor (a b:BitVec 32):IntKind.wrap .u32 (BitVec.toNat (BitVec.ofInt 32 (U a) ^^^ BitVec.ofInt 32 (U b)))=U (a ^^^ b):=by rw [U32,ofInt_U,ofInt_U,ofInt_toNat]
theorem u32_and (a b:BitVec 32):IntKind.wrap .u32 (BitVec.toNat (BitVec.ofInt 32 (U a) &&& BitVec.ofInt 32 (U b)))=U (a &&& b):=by rw [U32,ofInt_U,ofInt_U,ofInt_toNat]
theorem u32_or (a b:BitVec 32):IntKind.wrap .u32 (BitVec.toNat (BitVec.ofInt 32 (U a) ||| BitVec.ofInt 32 (U b)))=U (a ||| b):=by rw [U32,ofInt_U,ofInt_U,ofInt_toNat]
theorem u64_or (a b:BitVec 64):IntKind.wrap .u64 (BitVec.toNat (BitVec.ofInt 64 (U a) ||| BitVec.ofInt 64 (U b)))=U (a ||| b):=by rw [U64,ofInt_U,ofInt_U,ofInt_toNat]
theorem shl_U {n:Nat} (a:BitVec n) (m:Nat):BitVec.ofInt n (U a*2^m)=a <<< m:=by
  apply BitVec.eq_of_toNat_eq
  rw [BitVec.toNat_ofInt,BitVec.toNat_shiftLeft,Nat.shiftLeft_eq]
  unfold U
  have:((a.toNat:Int)*2^m)=((a.toNat*2^m:Nat):Int):=by push_cast; rfl
  rw [this]
  rfl
theorem u32_shl (a:BitVec 32) (m:Nat):IntKind.wrap .u32 (U a*2^m)=U (a <<< m):=by rw [U32,shl_U]
theorem u64_shl (a:BitVec 64) (m:Nat):IntKind.wrap .u64 (U a*2^m)=U (a <<< m):=by rw [U64,shl_U]
theorem U_shr {n:Nat} (a:BitVec n) (m:Nat):Int.fdiv (U a) (2^m)=U (a >>> m):=by
  unfold U
  have:(2:Int)^m=((2^m:Nat):Int):=by push_cast; rfl
  rw [BitVec.toNat_ushiftRight,Nat.shiftRight_eq_div_pow,this,← Int.ofNat_fdiv]
end Go.Proofs.YtlkkebfjmbfgpaaGreatDoor.Ev

